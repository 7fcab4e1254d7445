/- Functions of the program as Lean functions, each with a proof that a call comes to what it says. Conditions: those of each theorem. Laid by a program of this session. -/
import Derived.Test.YtmkjeidejgbicaaPBasex0
import Derived.Test.YtmkjeidejgbicaaPBasex1
import Derived.Test.YtmkjeidejgbicaaPBasex5
import Derived.Test.YtmkjeidejgbicaaPBasex7
import Derived.Test.YtmkjeidejgbicaaPBasex8
namespace Go.Proofs.Ytmkjeidejgbicaa.PBase
open Go.RowKit Go.Proofs.Ytmkjeidejgbicaa Go.Proofs.YtmkjeidejgbicaaW.PrintWords Go.Proofs.YtmkjeidejgbicaaW.PrintLast Go.Proofs.YtmkjeidejgbicaaW.PrintMore
attribute [local go_sem] max2_int min2_int max_two min_two max_three min_three max_four min_four   -- for this text's walks alone
set_option linter.unusedVariables false
set_option linter.unusedSimpArgs false

attribute [local go_sem high] eqA23
/-! ### crosswayref08_Take: function 14 -/
def crosswayref08_Take.j0 : Nat → ByteArray → Bool → Bool → Bool → Int → Int → Bool → Int → Int → Option (Bool × Int × Int × Int × ByteArray × Int)
 | 0, _, _, _, _, _, _, _, _, _ => none
 | k + 1, x0, x1, x22, x256000, x256001, x256002, x257000, x257001, x257002 => if x22 = true then (some (false, 0, 0, 0, (⟨#[]⟩ : ByteArray), 70)) else (if (x0.size : Int) < 8 then (some (false, 0, 0, 0, (⟨#[]⟩ : ByteArray), 71)) else (if (x0.size : Int) ≤ 140737488355200 then ((crosswayref08_sum.f k (bytesOf x0) x1 x256000 x256001 x256002 x257000 x257001 x257002).bind fun t262 => (if t262 = 65535 then (if (x0.size : Int) > 65008 then (some (false, 0, 0, 0, (⟨#[]⟩ : ByteArray), 70)) else (if 4 ≤ 8 then (if 8 ≤ (x0.size : Int) then (if ((x0.extract 4 8).size : Int) ≤ 140737488355200 then ((crosswayref01_Get.f k (bytesOf (x0.extract 4 8)) 0 4).bind fun bt267 => (if 0 < (x0.size : Int) then (if 1 < (x0.size : Int) then (some (x1, wrap64 (bt x0 0), wrap64 (bt x0 1), wrap64 (bt267.1), x0.extract 8 x0.size, 0)) else (none)) else (none))) else (none)) else (none)) else (none))) else (some (false, 0, 0, 0, (⟨#[]⟩ : ByteArray), 72)))) else (none)))
def crosswayref08_Take.f (k : Nat) (a0 : ByteArray) (a1 : Bool) (a2_0 : Bool) (a2_1 : Int) (a2_2 : Int) (a3_0 : Bool) (a3_1 : Int) (a3_2 : Int) : Option (Bool × Int × Int × Int × ByteArray × Int) := if a1 = true then (if a2_0 = true then (crosswayref08_Take.j0 k a0 a1 (!a3_0) a2_0 a2_1 a2_2 a3_0 a3_1 a3_2) else (crosswayref08_Take.j0 k a0 a1 true a2_0 a2_1 a2_2 a3_0 a3_1 a3_2)) else (crosswayref08_Take.j0 k a0 a1 false a2_0 a2_1 a2_2 a3_0 a3_1 a3_2)
theorem crosswayref08_Take.mono_l : ∀ k, (∀ y0 y1 y2 y3 y4 y5 y6 y7 y8, LeO (crosswayref08_Take.j0 k y0 y1 y2 y3 y4 y5 y6 y7 y8) (crosswayref08_Take.j0 (k + 1) y0 y1 y2 y3 y4 y5 y6 y7 y8))
 | 0 => fun _ _ _ _ _ _ _ _ _ r h => by simp [crosswayref08_Take.j0] at h
 | k + 1 => by
  have ih0 := crosswayref08_Take.mono_l k
  ·
   intro y0 y1 y2 y3 y4 y5 y6 y7 y8
   unfold crosswayref08_Take.j0
   repeat' first
   | (with_reducible exact ih0 _ _ _ _ _ _ _ _ _)
   | (with_reducible exact crosswayref01_Get.mono _ _ _ _)
   | (with_reducible exact crosswayref08_sum.mono _ _ _ _ _ _ _ _ _)
   | (with_reducible exact LeO.refl _)
   | (with_reducible exact LeO.none _)
   | (with_reducible refine LeO.ite ?_ ?_)
   | (with_reducible refine LeO.bind ?_ (fun _ => ?_))
   | exact ih0 _ _ _ _ _ _ _ _ _
   | exact crosswayref01_Get.mono _ _ _ _
   | exact crosswayref08_sum.mono _ _ _ _ _ _ _ _ _
   | exact LeO.none _
   | refine LeO.ite ?_ ?_
   | refine LeO.bind ?_ (fun _ => ?_)
theorem crosswayref08_Take.mono : ∀ a0 a1 a2 a3 a4 a5 a6 a7 k, LeO (crosswayref08_Take.f k a0 a1 a2 a3 a4 a5 a6 a7) (crosswayref08_Take.f (k + 1) a0 a1 a2 a3 a4 a5 a6 a7) := by
 intro a0 a1 a2 a3 a4 a5 a6 a7 k
 have ih0 := crosswayref08_Take.mono_l k
 unfold crosswayref08_Take.f
 repeat' first
   | (with_reducible exact ih0 _ _ _ _ _ _ _ _ _)
   | (with_reducible exact crosswayref01_Get.mono _ _ _ _)
   | (with_reducible exact crosswayref08_sum.mono _ _ _ _ _ _ _ _ _)
   | (with_reducible exact LeO.refl _)
   | (with_reducible exact LeO.none _)
   | (with_reducible refine LeO.ite ?_ ?_)
   | (with_reducible refine LeO.bind ?_ (fun _ => ?_))
   | exact ih0 _ _ _ _ _ _ _ _ _
   | exact crosswayref01_Get.mono _ _ _ _
   | exact crosswayref08_sum.mono _ _ _ _ _ _ _ _ _
   | exact LeO.none _
   | refine LeO.ite ?_ ?_
   | refine LeO.bind ?_ (fun _ => ?_)
def crosswayref08_Take.T10 : Bool × List (List Nat × List Nat) := (true, [([], []), ([], []), ([1], [1]), ([2], [2]), ([], []), ([4], [4]), ([5], [5]), ([], []), ([7], [7]), ([], []), ([9], [9]), ([0, 3, 6, 8, 10], [0, 3, 6, 8, 10]), ([11, 0, 1, 2, 3, 4, 5, 6, 7, 8, 9, 10, 11], [11]), ([12, 0, 1, 2, 3, 4, 5, 6, 7, 8, 9, 10, 11, 12], [])])
def crosswayref08_Take.B10 : List Nat := [0, 0, 2, 6, 0, 16, 48, 0, 128, 0, 512, 2047, 4095, 8191]
theorem crosswayref08_Take.tab10 : rtab .any (opsOf Try.f14 10) = crosswayref08_Take.T10 := by kernel_rfl
theorem crosswayref08_Take.bits10 : waitsOk crosswayref08_Take.T10.2 crosswayref08_Take.B10 = true := by kernel_rfl
set_option maxHeartbeats 8000000 in
set_option maxRecDepth 100000 in
theorem crosswayref08_Take.calls (k : Nat) (a0 : ByteArray) (a1 : Bool) (a2_0 : Bool) (a2_1 : Int) (a2_2 : Int) (a3_0 : Bool) (a3_1 : Int) (a3_2 : Int) (r1 : Bool) (r2 : Int) (r3 : Int) (r4 : Int) (r5 : ByteArray) (r6 : Int) (w : World) (h : crosswayref08_Take.f k a0 a1 a2_0 a2_1 a2_2 a3_0 a3_1 a3_2 = some (r1, r2, r3, r4, r5, r6)) :
  Calls Try.prog 14 #[.string a0, .bool a1, .agg #[.bool a2_0, .int .u64 a2_1, .int .u64 a2_2], .agg #[.bool a3_0, .int .u64 a3_1, .int .u64 a3_2]] w fun e w' => e = .returned (.tuple #[.agg #[.bool r1, .int .i64 r2, .int .i64 r3, .int .i64 r4, .string r5], .int .i64 r6]) ∧ Below w.heap.size w w' := by
 have hu26 := Try.underlying26
 have hu23 := Try.underlying23
 have HB := Aside0.mk (Below.refl w.heap.size w)
 have H : (if a1 = true then (if a2_0 = true then (crosswayref08_Take.j0 k a0 a1 (!a3_0) a2_0 a2_1 a2_2 a3_0 a3_1 a3_2) else (crosswayref08_Take.j0 k a0 a1 true a2_0 a2_1 a2_2 a3_0 a3_1 a3_2)) else (crosswayref08_Take.j0 k a0 a1 false a2_0 a2_1 a2_2 a3_0 a3_1 a3_2)) = some (r1, r2, r3, r4, r5, r6) := h
 clear h
 have HC5 := Aside0.mk H
 clear H
 go_enter Try.func14, Try.ntmps14
 go_upto_region 1 with (first | ((with_reducible refine gate_dst (N := 6) rfl ?_); refine box_event ?hg (N := 6) ?hd (cs := #[.bool a2_0, .int .u64 a2_1, .int .u64 a2_2]) (t := 26) ?hr ?_; (case hd => rfl); (case hg => rfl); (case hr => first | (go_simp; done) | (go_simp; rfl)); intro gb255 hg w6 hbox hb; have n0_ := Aside0.mk (below_step (by repeat (first | (with_reducible first | exact HB.out | apply below_alloc | apply pw_below_drewN | apply below_drew1) | exact HB.out)) hb); have n1_ := Aside0.mk (hbox); have n2_ := Aside0.mk ((by rw [hg]; exact (below_size (by repeat (first | (with_reducible first | exact HB.out | apply below_alloc | apply pw_below_drewN | apply below_drew1) | exact HB.out))) : w.heap.size ≤ gb255)); have n3_ := Aside0.mk ((by rw [hg]; exact (below_size (by repeat (first | (with_reducible first | exact HB.out | apply below_alloc | apply pw_below_drewN | apply below_drew1) | exact HB.out))) : w.heap.size ≤ gb255)); clear HB; have HB := n0_; have BK255 := n1_; have GW255 := n2_; have GE255 := n3_; clear n0_ n1_ n2_ n3_; clear hb hbox hg) | ((with_reducible refine gate_dst (N := 7) rfl ?_); refine box_event ?hg (N := 7) ?hd (cs := #[.bool a3_0, .int .u64 a3_1, .int .u64 a3_2]) (t := 26) ?hr ?_; (case hd => rfl); (case hg => rfl); (case hr => first | (go_simp; done) | (go_simp; rfl)); intro gb256 hg w7 hbox hb; have n0_ := Aside0.mk (blk_below (g := gb255) (o := .cells #[.bool a2_0, .int .u64 a2_1, .int .u64 a2_2] 26 (0, 0)) (by (with_reducible repeat (first | refine blk_drewN ?_ _ | refine blk_drew ?_ | refine blk_alloc ?_ _)); exact BK255.out) hb); have n1_ := Aside0.mk (below_step (by repeat (first | (with_reducible first | exact HB.out | apply below_alloc | apply pw_below_drewN | apply below_drew1 | refine below_set ?_ GE255.out) | exact HB.out)) hb); have n2_ := Aside0.mk (hbox); have n3_ := Aside0.mk ((by rw [hg]; exact (below_size (by repeat (first | (with_reducible first | exact HB.out | apply below_alloc | apply pw_below_drewN | apply below_drew1 | refine below_set ?_ GE255.out) | exact HB.out))) : w.heap.size ≤ gb256)); have n4_ := Aside0.mk ((by rw [hg]; exact (below_size (by repeat (first | (with_reducible first | exact HB.out | apply below_alloc | apply pw_below_drewN | apply below_drew1 | refine below_set ?_ GE255.out) | exact HB.out))) : w.heap.size ≤ gb256)); have n5_ := Aside0.mk ((by rw [hg]; exact Nat.ne_of_lt (blk_lt (g := gb255) (o := .cells #[.bool a2_0, .int .u64 a2_1, .int .u64 a2_2] 26 (0, 0)) (by (with_reducible repeat (first | refine blk_drewN ?_ _ | refine blk_drew ?_ | refine blk_alloc ?_ _)); exact BK255.out)) : gb255 ≠ gb256)); have n6_ := Aside0.mk ((by rw [hg]; exact Nat.ne_of_gt (blk_lt (g := gb255) (o := .cells #[.bool a2_0, .int .u64 a2_1, .int .u64 a2_2] 26 (0, 0)) (by (with_reducible repeat (first | refine blk_drewN ?_ _ | refine blk_drew ?_ | refine blk_alloc ?_ _)); exact BK255.out)) : gb256 ≠ gb255)); clear BK255; clear HB; have BK255 := n0_; have HB := n1_; have BK256 := n2_; have GW256 := n3_; have GE256 := n4_; have NB255_256 := n5_; have NB256_255 := n6_; clear n0_ n1_ n2_ n3_ n4_ n5_ n6_; clear hb hbox hg) | ((with_reducible refine gate_dst (N := 8) rfl ?_); refine box_event ?hg (N := 8) ?hd (cs := #[.bool false, .int .i64 0, .int .i64 0, .int .i64 0, .string (⟨#[]⟩ : ByteArray)]) (t := 23) ?hr ?_; (case hd => rfl); (case hg => rfl); (case hr => first | (go_simp; done) | (go_simp; rfl)); intro gb257 hg w8 hbox hb; have n0_ := Aside0.mk (blk_below (g := gb255) (o := .cells #[.bool a2_0, .int .u64 a2_1, .int .u64 a2_2] 26 (0, 0)) (by (with_reducible repeat (first | refine blk_drewN ?_ _ | refine blk_drew ?_ | refine blk_alloc ?_ _)); exact BK255.out) hb); have n1_ := Aside0.mk (blk_below (g := gb256) (o := .cells #[.bool a3_0, .int .u64 a3_1, .int .u64 a3_2] 26 (0, 0)) (by (with_reducible repeat (first | refine blk_drewN ?_ _ | refine blk_drew ?_ | refine blk_alloc ?_ _)); exact BK256.out) hb); have n2_ := Aside0.mk (below_step (by repeat (first | (with_reducible first | exact HB.out | apply below_alloc | apply pw_below_drewN | apply below_drew1 | refine below_set ?_ GE255.out | refine below_set ?_ GE256.out) | exact HB.out)) hb); have n3_ := Aside0.mk (hbox); have n4_ := Aside0.mk ((by rw [hg]; exact (below_size (by repeat (first | (with_reducible first | exact HB.out | apply below_alloc | apply pw_below_drewN | apply below_drew1 | refine below_set ?_ GE255.out | refine below_set ?_ GE256.out) | exact HB.out))) : w.heap.size ≤ gb257)); have n5_ := Aside0.mk ((by rw [hg]; exact (below_size (by repeat (first | (with_reducible first | exact HB.out | apply below_alloc | apply pw_below_drewN | apply below_drew1 | refine below_set ?_ GE255.out | refine below_set ?_ GE256.out) | exact HB.out))) : w.heap.size ≤ gb257)); have n6_ := Aside0.mk ((by rw [hg]; exact Nat.ne_of_lt (blk_lt (g := gb255) (o := .cells #[.bool a2_0, .int .u64 a2_1, .int .u64 a2_2] 26 (0, 0)) (by (with_reducible repeat (first | refine blk_drewN ?_ _ | refine blk_drew ?_ | refine blk_alloc ?_ _)); exact BK255.out)) : gb255 ≠ gb257)); have n7_ := Aside0.mk ((by rw [hg]; exact Nat.ne_of_gt (blk_lt (g := gb255) (o := .cells #[.bool a2_0, .int .u64 a2_1, .int .u64 a2_2] 26 (0, 0)) (by (with_reducible repeat (first | refine blk_drewN ?_ _ | refine blk_drew ?_ | refine blk_alloc ?_ _)); exact BK255.out)) : gb257 ≠ gb255)); have n8_ := Aside0.mk ((by rw [hg]; exact Nat.ne_of_lt (blk_lt (g := gb256) (o := .cells #[.bool a3_0, .int .u64 a3_1, .int .u64 a3_2] 26 (0, 0)) (by (with_reducible repeat (first | refine blk_drewN ?_ _ | refine blk_drew ?_ | refine blk_alloc ?_ _)); exact BK256.out)) : gb256 ≠ gb257)); have n9_ := Aside0.mk ((by rw [hg]; exact Nat.ne_of_gt (blk_lt (g := gb256) (o := .cells #[.bool a3_0, .int .u64 a3_1, .int .u64 a3_2] 26 (0, 0)) (by (with_reducible repeat (first | refine blk_drewN ?_ _ | refine blk_drew ?_ | refine blk_alloc ?_ _)); exact BK256.out)) : gb257 ≠ gb256)); clear BK255; clear BK256; clear HB; have BK255 := n0_; have BK256 := n1_; have HB := n2_; have BK257 := n3_; have GW257 := n4_; have GE257 := n5_; have NB255_257 := n6_; have NB257_255 := n7_; have NB256_257 := n8_; have NB257_256 := n9_; clear n0_ n1_ n2_ n3_ n4_ n5_ n6_ n7_ n8_ n9_; clear hb hbox hg))
 (try simp only [Act.put, List.setIfInBounds_toArray, List.set_cons_zero, List.set_cons_succ])
 go_cut [22] (fun v22 wc => ∃ (kq : Nat) (x22_4 : Bool), v22 = .bool x22_4 ∧ Aside0 (crosswayref08_Take.j0 kq a0 a1 x22_4 a2_0 a2_1 a2_2 a3_0 a3_1 a3_2 = some (r1, r2, r3, r4, r5, r6)) ∧ Aside0 (kq ≤ k) ∧ Aside0 (wc.heap[gb255]? = some (.cells #[.bool a2_0, .int .u64 a2_1, .int .u64 a2_2] 26 (0, 0))) ∧ Aside0 (wc.heap[gb256]? = some (.cells #[.bool a3_0, .int .u64 a3_1, .int .u64 a3_2] 26 (0, 0))) ∧ Aside0 (wc.heap[gb257]? = some (.cells #[.bool false, .int .i64 0, .int .i64 0, .int .i64 0, .string (⟨#[]⟩ : ByteArray)] 23 (0, 0))) ∧ Aside0 (Below w.heap.size w wc))
 case first =>
  have H := HC5.out
  clear HC5
  by_cases c9 : a1 = true
  ·
   subst c9
   have H1 : (if a2_0 = true then (crosswayref08_Take.j0 k a0 true (!a3_0) a2_0 a2_1 a2_2 a3_0 a3_1 a3_2) else (crosswayref08_Take.j0 k a0 true true a2_0 a2_1 a2_2 a3_0 a3_1 a3_2)) = some (r1, r2, r3, r4, r5, r6) := by rw [if_pos rfl] at H; exact H
   clear H
   have H := H1
   clear H1
   by_cases c10 : a2_0 = true
   ·
    subst c10
    have H1 : (crosswayref08_Take.j0 k a0 true (!a3_0) true a2_1 a2_2 a3_0 a3_1 a3_2) = some (r1, r2, r3, r4, r5, r6) := by rw [if_pos rfl] at H; exact H
    clear H
    have H := H1
    clear H1
    have H' := Aside0.mk H
    clear H
    have hnb11 := NB255_256.out
    have hnc11 := NB256_255.out
    have hnb12 := NB255_257.out
    have hnc12 := NB257_255.out
    have hcz13_0 : w8.cell? ⟨gb255, 0, none⟩ = some (.bool true) := (blk_cell BK255.out 0).trans rfl
    have hcz13_1 : w8.cell? ⟨gb255, 1, none⟩ = some (.int .u64 a2_1) := (blk_cell BK255.out 1).trans rfl
    have hcz13_2 : w8.cell? ⟨gb255, 2, none⟩ = some (.int .u64 a2_2) := (blk_cell BK255.out 2).trans rfl
    have hfz13_0 := blk_frozen BK255.out 0
    have hfz13_1 := blk_frozen BK255.out 1
    have hfz13_2 := blk_frozen BK255.out 2
    have hnb14 := NB256_257.out
    have hnc14 := NB257_256.out
    have hcz15_0 : w8.cell? ⟨gb256, 0, none⟩ = some (.bool a3_0) := (blk_cell BK256.out 0).trans rfl
    have hcz15_1 : w8.cell? ⟨gb256, 1, none⟩ = some (.int .u64 a3_1) := (blk_cell BK256.out 1).trans rfl
    have hcz15_2 : w8.cell? ⟨gb256, 2, none⟩ = some (.int .u64 a3_2) := (blk_cell BK256.out 2).trans rfl
    have hfz15_0 := blk_frozen BK256.out 0
    have hfz15_1 := blk_frozen BK256.out 1
    have hfz15_2 := blk_frozen BK256.out 2
    go_wp2
    go_meet
    case rel => exact ⟨_, (!a3_0), (by first | rfl | (simp; done) | (simp [*]; done)), H', ⟨by first | omega | exact Nat.le_refl _⟩, ⟨by (with_reducible repeat (first | refine blk_drewN ?_ _ | refine blk_drew ?_ | refine blk_alloc ?_ _)); exact BK255.out⟩, ⟨by (with_reducible repeat (first | refine blk_drewN ?_ _ | refine blk_drew ?_ | refine blk_alloc ?_ _)); exact BK256.out⟩, ⟨by (with_reducible repeat (first | refine blk_drewN ?_ _ | refine blk_drew ?_ | refine blk_alloc ?_ _)); exact BK257.out⟩, ⟨by repeat (first | (with_reducible first | exact HB.out | apply below_alloc | apply pw_below_drewN | apply below_drew1 | refine below_set ?_ GE255.out | refine below_set ?_ GE256.out | refine below_set ?_ GE257.out) | exact HB.out)⟩⟩
   ·
    replace c10 := Bool.eq_false_iff.mpr c10
    subst c10
    have H1 : (crosswayref08_Take.j0 k a0 true true false a2_1 a2_2 a3_0 a3_1 a3_2) = some (r1, r2, r3, r4, r5, r6) := by rw [if_neg (show ¬ (false = true) by decide)] at H; exact H
    clear H
    have H := H1
    clear H1
    have H' := Aside0.mk H
    clear H
    have hnb16 := NB255_256.out
    have hnc16 := NB256_255.out
    have hnb17 := NB255_257.out
    have hnc17 := NB257_255.out
    have hcz18_0 : w8.cell? ⟨gb255, 0, none⟩ = some (.bool false) := (blk_cell BK255.out 0).trans rfl
    have hcz18_1 : w8.cell? ⟨gb255, 1, none⟩ = some (.int .u64 a2_1) := (blk_cell BK255.out 1).trans rfl
    have hcz18_2 : w8.cell? ⟨gb255, 2, none⟩ = some (.int .u64 a2_2) := (blk_cell BK255.out 2).trans rfl
    have hfz18_0 := blk_frozen BK255.out 0
    have hfz18_1 := blk_frozen BK255.out 1
    have hfz18_2 := blk_frozen BK255.out 2
    go_wp2
    go_meet
    case rel => exact ⟨_, (true), (by first | rfl | (simp; done) | (simp [*]; done)), H', ⟨by first | omega | exact Nat.le_refl _⟩, ⟨by (with_reducible repeat (first | refine blk_drewN ?_ _ | refine blk_drew ?_ | refine blk_alloc ?_ _)); exact BK255.out⟩, ⟨by (with_reducible repeat (first | refine blk_drewN ?_ _ | refine blk_drew ?_ | refine blk_alloc ?_ _)); exact BK256.out⟩, ⟨by (with_reducible repeat (first | refine blk_drewN ?_ _ | refine blk_drew ?_ | refine blk_alloc ?_ _)); exact BK257.out⟩, ⟨by repeat (first | (with_reducible first | exact HB.out | apply below_alloc | apply pw_below_drewN | apply below_drew1 | refine below_set ?_ GE255.out | refine below_set ?_ GE256.out | refine below_set ?_ GE257.out) | exact HB.out)⟩⟩
  ·
   replace c9 := Bool.eq_false_iff.mpr c9
   subst c9
   have H1 : (crosswayref08_Take.j0 k a0 false false a2_0 a2_1 a2_2 a3_0 a3_1 a3_2) = some (r1, r2, r3, r4, r5, r6) := by rw [if_neg (show ¬ (false = true) by decide)] at H; exact H
   clear H
   have H := H1
   clear H1
   have H' := Aside0.mk H
   clear H
   go_wp2
   go_meet
   case rel => exact ⟨_, (false), (by first | rfl | (simp; done) | (simp [*]; done)), H', ⟨by first | omega | exact Nat.le_refl _⟩, ⟨by (with_reducible repeat (first | refine blk_drewN ?_ _ | refine blk_drew ?_ | refine blk_alloc ?_ _)); exact BK255.out⟩, ⟨by (with_reducible repeat (first | refine blk_drewN ?_ _ | refine blk_drew ?_ | refine blk_alloc ?_ _)); exact BK256.out⟩, ⟨by (with_reducible repeat (first | refine blk_drewN ?_ _ | refine blk_drew ?_ | refine blk_alloc ?_ _)); exact BK257.out⟩, ⟨by repeat (first | (with_reducible first | exact HB.out | apply below_alloc | apply pw_below_drewN | apply below_drew1 | refine below_set ?_ GE255.out | refine below_set ?_ GE256.out | refine below_set ?_ GE257.out) | exact HB.out)⟩⟩
 case rest =>
  clear HC5
  try clear c1
  try clear p2
  try clear c9
  try clear c10
  try clear c11
  try clear c12
  try clear c14
  try clear c16
  try clear c17
  try clear hcz13_0
  try clear hcz13_1
  try clear hcz13_2
  try clear hcz15_0
  try clear hcz15_1
  try clear hcz15_2
  try clear hcz18_0
  try clear hcz18_1
  try clear hcz18_2
  try clear hfz13_0
  try clear hfz13_1
  try clear hfz13_2
  try clear hfz15_0
  try clear hfz15_1
  try clear hfz15_2
  try clear hfz18_0
  try clear hfz18_1
  try clear hfz18_2
  obtain ⟨kq, x22_4, rfl, HA, HJ4, BK255, BK256, BK257, HB⟩ := hcut
  cases kq with
  | zero => exact absurd HA.out (by simp [crosswayref08_Take.j0])
  | succ kj4 =>
   have H := HA.out
   clear HA
   simp only [crosswayref08_Take.j0] at H
   by_cases c19 : x22_4 = true
   ·
    subst c19
    have H1 : (some (false, 0, 0, 0, (⟨#[]⟩ : ByteArray), 70)) = some (r1, r2, r3, r4, r5, r6) := by rw [if_pos rfl] at H; exact H
    clear H
    have H := H1
    clear H1
    simp only [Option.some.injEq, Prod.mk.injEq] at H
    obtain ⟨rfl, rfl, rfl, rfl, rfl, rfl⟩ := H
    have hnb20 := NB257_255.out
    have hnc20 := NB255_257.out
    have hnb21 := NB257_256.out
    have hnc21 := NB256_257.out
    have hcz22_0 : wc.cell? ⟨gb257, 0, none⟩ = some (.bool false) := (blk_cell BK257.out 0).trans rfl
    have hcz22_1 : wc.cell? ⟨gb257, 1, none⟩ = some (.int .i64 0) := (blk_cell BK257.out 1).trans rfl
    have hcz22_2 : wc.cell? ⟨gb257, 2, none⟩ = some (.int .i64 0) := (blk_cell BK257.out 2).trans rfl
    have hcz22_3 : wc.cell? ⟨gb257, 3, none⟩ = some (.int .i64 0) := (blk_cell BK257.out 3).trans rfl
    have hcz22_4 : wc.cell? ⟨gb257, 4, none⟩ = some (.string (⟨#[]⟩ : ByteArray)) := (blk_cell BK257.out 4).trans rfl
    have hfz22_0 := blk_frozen BK257.out 0
    have hfz22_1 := blk_frozen BK257.out 1
    have hfz22_2 := blk_frozen BK257.out 2
    have hfz22_3 := blk_frozen BK257.out 3
    have hfz22_4 := blk_frozen BK257.out 4
    go_wp2
    refine bodyPost_ret (results_ct rfl _ _ gb257 23 #[.bool false, .int .i64 0, .int .i64 0, .int .i64 0, .string (⟨#[]⟩ : ByteArray)] (0, 0) _ rfl (by (with_reducible repeat (first | refine blk_drewN ?_ _ | refine blk_drew ?_ | refine blk_alloc ?_ _)); refine blk_put (cs := #[.bool false, .int .i64 0, .int .i64 0, .int .i64 0, .string (⟨#[]⟩ : ByteArray)]) ?_ 4 _ rfl; (with_reducible repeat (first | refine blk_drewN ?_ _ | refine blk_drew ?_ | refine blk_alloc ?_ _)); refine blk_put (cs := #[.bool false, .int .i64 0, .int .i64 0, .int .i64 0, .string (⟨#[]⟩ : ByteArray)]) ?_ 3 _ rfl; (with_reducible repeat (first | refine blk_drewN ?_ _ | refine blk_drew ?_ | refine blk_alloc ?_ _)); refine blk_put (cs := #[.bool false, .int .i64 0, .int .i64 0, .int .i64 0, .string (⟨#[]⟩ : ByteArray)]) ?_ 2 _ rfl; (with_reducible repeat (first | refine blk_drewN ?_ _ | refine blk_drew ?_ | refine blk_alloc ?_ _)); refine blk_put (cs := #[.bool false, .int .i64 0, .int .i64 0, .int .i64 0, .string (⟨#[]⟩ : ByteArray)]) ?_ 1 _ rfl; (with_reducible repeat (first | refine blk_drewN ?_ _ | refine blk_drew ?_ | refine blk_alloc ?_ _)); refine blk_put (cs := #[.bool false, .int .i64 0, .int .i64 0, .int .i64 0, .string (⟨#[]⟩ : ByteArray)]) ?_ 0 _ rfl; (with_reducible repeat (first | refine blk_drewN ?_ _ | refine blk_drew ?_ | refine blk_alloc ?_ _)); exact BK257.out) Try.underlying23 rfl (by kernel_rfl)) rfl ?_
    exact ⟨by first | rfl | (simp [errW_none, errW_some] <;> rfl) | (simp [*, errW_none, errW_some] <;> rfl), by repeat (first | (with_reducible first | exact HB.out | apply below_alloc | apply pw_below_drewN | apply below_drew1 | refine below_set ?_ GE255.out | refine below_set ?_ GE256.out | refine below_set ?_ GE257.out) | exact HB.out)⟩
   ·
    replace c19 := Bool.eq_false_iff.mpr c19
    subst c19
    have H1 : (if (a0.size : Int) < 8 then (some (false, 0, 0, 0, (⟨#[]⟩ : ByteArray), 71)) else (if (a0.size : Int) ≤ 140737488355200 then ((crosswayref08_sum.f kj4 (bytesOf a0) a1 a2_0 a2_1 a2_2 a3_0 a3_1 a3_2).bind fun t262 => (if t262 = 65535 then (if (a0.size : Int) > 65008 then (some (false, 0, 0, 0, (⟨#[]⟩ : ByteArray), 70)) else (if 4 ≤ 8 then (if 8 ≤ (a0.size : Int) then (if ((a0.extract 4 8).size : Int) ≤ 140737488355200 then ((crosswayref01_Get.f kj4 (bytesOf (a0.extract 4 8)) 0 4).bind fun bt267 => (if 0 < (a0.size : Int) then (if 1 < (a0.size : Int) then (some (a1, wrap64 (bt a0 0), wrap64 (bt a0 1), wrap64 (bt267.1), a0.extract 8 a0.size, 0)) else (none)) else (none))) else (none)) else (none)) else (none))) else (some (false, 0, 0, 0, (⟨#[]⟩ : ByteArray), 72)))) else (none))) = some (r1, r2, r3, r4, r5, r6) := by rw [if_neg (show ¬ (false = true) by decide)] at H; exact H
    clear H
    have H := H1
    clear H1
    by_cases c23 : (a0.size : Int) < 8
    ·
     rw [if_pos c23] at H
     have c23b0 : decide ((a0.size : Int) < 8) = true := decide_eq_true c23
     have c23b1 : decide (a0.size < 8) = true := decide_eq_true (by omega)
     clear c23
     simp only [Option.some.injEq, Prod.mk.injEq] at H
     obtain ⟨rfl, rfl, rfl, rfl, rfl, rfl⟩ := H
     have hnb24 := NB257_255.out
     have hnc24 := NB255_257.out
     have hnb25 := NB257_256.out
     have hnc25 := NB256_257.out
     have hcz26_0 : wc.cell? ⟨gb257, 0, none⟩ = some (.bool false) := (blk_cell BK257.out 0).trans rfl
     have hcz26_1 : wc.cell? ⟨gb257, 1, none⟩ = some (.int .i64 0) := (blk_cell BK257.out 1).trans rfl
     have hcz26_2 : wc.cell? ⟨gb257, 2, none⟩ = some (.int .i64 0) := (blk_cell BK257.out 2).trans rfl
     have hcz26_3 : wc.cell? ⟨gb257, 3, none⟩ = some (.int .i64 0) := (blk_cell BK257.out 3).trans rfl
     have hcz26_4 : wc.cell? ⟨gb257, 4, none⟩ = some (.string (⟨#[]⟩ : ByteArray)) := (blk_cell BK257.out 4).trans rfl
     have hfz26_0 := blk_frozen BK257.out 0
     have hfz26_1 := blk_frozen BK257.out 1
     have hfz26_2 := blk_frozen BK257.out 2
     have hfz26_3 := blk_frozen BK257.out 3
     have hfz26_4 := blk_frozen BK257.out 4
     go_wp2
     refine bodyPost_ret (results_ct rfl _ _ gb257 23 #[.bool false, .int .i64 0, .int .i64 0, .int .i64 0, .string (⟨#[]⟩ : ByteArray)] (0, 0) _ rfl (by (with_reducible repeat (first | refine blk_drewN ?_ _ | refine blk_drew ?_ | refine blk_alloc ?_ _)); refine blk_put (cs := #[.bool false, .int .i64 0, .int .i64 0, .int .i64 0, .string (⟨#[]⟩ : ByteArray)]) ?_ 4 _ rfl; (with_reducible repeat (first | refine blk_drewN ?_ _ | refine blk_drew ?_ | refine blk_alloc ?_ _)); refine blk_put (cs := #[.bool false, .int .i64 0, .int .i64 0, .int .i64 0, .string (⟨#[]⟩ : ByteArray)]) ?_ 3 _ rfl; (with_reducible repeat (first | refine blk_drewN ?_ _ | refine blk_drew ?_ | refine blk_alloc ?_ _)); refine blk_put (cs := #[.bool false, .int .i64 0, .int .i64 0, .int .i64 0, .string (⟨#[]⟩ : ByteArray)]) ?_ 2 _ rfl; (with_reducible repeat (first | refine blk_drewN ?_ _ | refine blk_drew ?_ | refine blk_alloc ?_ _)); refine blk_put (cs := #[.bool false, .int .i64 0, .int .i64 0, .int .i64 0, .string (⟨#[]⟩ : ByteArray)]) ?_ 1 _ rfl; (with_reducible repeat (first | refine blk_drewN ?_ _ | refine blk_drew ?_ | refine blk_alloc ?_ _)); refine blk_put (cs := #[.bool false, .int .i64 0, .int .i64 0, .int .i64 0, .string (⟨#[]⟩ : ByteArray)]) ?_ 0 _ rfl; (with_reducible repeat (first | refine blk_drewN ?_ _ | refine blk_drew ?_ | refine blk_alloc ?_ _)); exact BK257.out) Try.underlying23 rfl (by kernel_rfl)) rfl ?_
     exact ⟨by first | rfl | (simp [errW_none, errW_some] <;> rfl) | (simp [*, errW_none, errW_some] <;> rfl), by repeat (first | (with_reducible first | exact HB.out | apply below_alloc | apply pw_below_drewN | apply below_drew1 | refine below_set ?_ GE255.out | refine below_set ?_ GE256.out | refine below_set ?_ GE257.out) | exact HB.out)⟩
    ·
     rw [if_neg c23] at H
     have c23b0 : decide ((a0.size : Int) < 8) = false := decide_eq_false c23
     have c23b1 : decide (a0.size < 8) = false := decide_eq_false (by omega)
     clear c23
     by_cases c27 : (a0.size : Int) ≤ 140737488355200
     ·
      rw [if_pos c27] at H
      have c27b0 := eq_true c27
      have c27b1 : decide ((a0.size : Int) ≤ 140737488355200) = true := decide_eq_true c27
      clear c27
      obtain ⟨y258, hy258⟩ : ∃ y_ : List Int, y_ = (bytesOf a0) := ⟨_, rfl⟩
      replace H : ((crosswayref08_sum.f kj4 y258 a1 a2_0 a2_1 a2_2 a3_0 a3_1 a3_2).bind fun t262 => (if t262 = 65535 then (if (a0.size : Int) > 65008 then (some (false, 0, 0, 0, (⟨#[]⟩ : ByteArray), 70)) else (if 4 ≤ 8 then (if 8 ≤ (a0.size : Int) then (if ((a0.extract 4 8).size : Int) ≤ 140737488355200 then ((crosswayref01_Get.f kj4 (bytesOf (a0.extract 4 8)) 0 4).bind fun bt267 => (if 0 < (a0.size : Int) then (if 1 < (a0.size : Int) then (some (a1, wrap64 (bt a0 0), wrap64 (bt a0 1), wrap64 (bt267.1), a0.extract 8 a0.size, 0)) else (none)) else (none))) else (none)) else (none)) else (none))) else (some (false, 0, 0, 0, (⟨#[]⟩ : ByteArray), 72)))) = some (r1, r2, r3, r4, r5, r6) := by first | (rw [hy258]; with_reducible exact H) | (have H2_ := (Option.bind_some _ _).symm.trans H; rw [hy258]; with_reducible exact H2_) | (have H2_ := (Option.bind_some _ _).symm.trans H; with_reducible exact H2_) | with_reducible exact H | (rw [hy258]; exact H) | exact H
      have Ny258 := Aside0.mk hy258
      clear hy258
      replace H := Option.bind_eq_some_iff.mp H
      obtain ⟨t262, A280, H⟩ := H
      replace H : (if t262 = 65535 then (if (a0.size : Int) > 65008 then (some (false, 0, 0, 0, (⟨#[]⟩ : ByteArray), 70)) else (if 4 ≤ 8 then (if 8 ≤ (a0.size : Int) then (if ((a0.extract 4 8).size : Int) ≤ 140737488355200 then ((crosswayref01_Get.f kj4 (bytesOf (a0.extract 4 8)) 0 4).bind fun bt267 => (if 0 < (a0.size : Int) then (if 1 < (a0.size : Int) then (some (a1, wrap64 (bt a0 0), wrap64 (bt a0 1), wrap64 (bt267.1), a0.extract 8 a0.size, 0)) else (none)) else (none))) else (none)) else (none)) else (none))) else (some (false, 0, 0, 0, (⟨#[]⟩ : ByteArray), 72))) = some (r1, r2, r3, r4, r5, r6) := H
      have A28 := Aside0.mk A280
      clear A280
      by_cases c29 : t262 = 65535
      ·
       rw [if_pos c29] at H
       have c29b0 : (t262 == 65535) = true := beq_iff_eq.mpr c29
       have c29b1 : (t262 != 65535) = false := bne_eq_false_iff_eq.mpr c29
       clear c29
       by_cases c30 : (a0.size : Int) > 65008
       ·
        rw [if_pos c30] at H
        have c30b0 : decide (65008 < (a0.size : Int)) = true := decide_eq_true c30
        have c30b1 : decide (65008 < a0.size) = true := decide_eq_true (by omega)
        clear c30
        simp only [Option.some.injEq, Prod.mk.injEq] at H
        obtain ⟨rfl, rfl, rfl, rfl, rfl, rfl⟩ := H
        go_wp2_with (first | ((with_reducible refine gate_dst (N := 29) rfl ?_); refine MStr.bytes_event y258 rfl (N := 29) rfl 9 39 5 _ rfl a0 rfl Try.underlying9 Try.underlying39 Try.underlying5 (of_decide_eq_true (by first | (with_reducible assumption) | assumption)) Ny258.out ?_; intro A261 c261 w31 hC_ hcap_ hb; have n0_ := Aside0.mk (blk_below (g := gb255) (o := .cells #[.bool a2_0, .int .u64 a2_1, .int .u64 a2_2] 26 (0, 0)) (by (with_reducible repeat (first | refine blk_drewN ?_ _ | refine blk_drew ?_ | refine blk_alloc ?_ _)); exact BK255.out) hb); have n1_ := Aside0.mk (blk_below (g := gb256) (o := .cells #[.bool a3_0, .int .u64 a3_1, .int .u64 a3_2] 26 (0, 0)) (by (with_reducible repeat (first | refine blk_drewN ?_ _ | refine blk_drew ?_ | refine blk_alloc ?_ _)); exact BK256.out) hb); have n2_ := Aside0.mk (blk_below (g := gb257) (o := .cells #[.bool false, .int .i64 0, .int .i64 0, .int .i64 0, .string (⟨#[]⟩ : ByteArray)] 23 (0, 0)) (by (with_reducible repeat (first | refine blk_drewN ?_ _ | refine blk_drew ?_ | refine blk_alloc ?_ _)); exact BK257.out) hb); have n3_ := Aside0.mk (below_step (by repeat (first | (with_reducible first | exact HB.out | apply below_alloc | apply pw_below_drewN | apply below_drew1 | refine below_set ?_ GE255.out | refine below_set ?_ GE256.out | refine below_set ?_ GE257.out) | exact HB.out)) hb); clear BK255; clear BK256; clear BK257; clear HB; have BK255 := n0_; have BK256 := n1_; have BK257 := n2_; have HB := n3_; clear n0_ n1_ n2_ n3_; have HR261 := Aside0.mk hC_; have HC261 := Aside0.mk hcap_; clear hb hC_ hcap_; have hnb32 := NB255_256.out; have hnc32 := NB256_255.out; have hnb33 := NB255_257.out; have hnc33 := NB257_255.out; have hcz34_0 : w31.cell? ⟨gb255, 0, none⟩ = some (.bool a2_0) := (blk_cell BK255.out 0).trans rfl; have hcz34_1 : w31.cell? ⟨gb255, 1, none⟩ = some (.int .u64 a2_1) := (blk_cell BK255.out 1).trans rfl; have hcz34_2 : w31.cell? ⟨gb255, 2, none⟩ = some (.int .u64 a2_2) := (blk_cell BK255.out 2).trans rfl; have hfz34_0 := blk_frozen BK255.out 0; have hfz34_1 := blk_frozen BK255.out 1; have hfz34_2 := blk_frozen BK255.out 2; have hnb35 := NB256_257.out; have hnc35 := NB257_256.out; have hcz36_0 : w31.cell? ⟨gb256, 0, none⟩ = some (.bool a3_0) := (blk_cell BK256.out 0).trans rfl; have hcz36_1 : w31.cell? ⟨gb256, 1, none⟩ = some (.int .u64 a3_1) := (blk_cell BK256.out 1).trans rfl; have hcz36_2 : w31.cell? ⟨gb256, 2, none⟩ = some (.int .u64 a3_2) := (blk_cell BK256.out 2).trans rfl; have hfz36_0 := blk_frozen BK256.out 0; have hfz36_1 := blk_frozen BK256.out 1; have hfz36_2 := blk_frozen BK256.out 2) | ((with_reducible refine gate_callee (f := 25) rfl ?_); refine goesL_ (some 33) rfl rfl Try.func25 (by kernel_rfl) rfl #[.slice A261 y258.length c261, .bool a1, .agg #[.bool a2_0, .int .u64 a2_1, .int .u64 a2_2], .agg #[.bool a3_0, .int .u64 a3_1, .int .u64 a3_2]] rfl (by (try simp only [List.map_toArray, List.map_cons, List.map_nil]); first | done | rfl | (simp only [List.length_drop, List.length_take]; rfl)) ?_; (with_reducible refine (crosswayref08_sum.calls kj4 _ _ y258 a1 a2_0 a2_1 a2_2 a3_0 a3_1 a3_2 t262 _ ?side1 ?side2 A28.out).mono ?_); (case side1 => repeat (first | exact (by repeat (first | (with_reducible exact HR261.out) | (with_reducible refine Kd.C_alloc ?_ _) | (with_reducible refine Kd.C_drewN ?_ _) | (with_reducible refine Kd.C_drew ?_) | exact HR261.out)) | (with_reducible refine Kd.C_alloc ?_ _) | (with_reducible refine Kd.C_drewN ?_ _) | (with_reducible refine Kd.C_drew ?_))); (case side2 => exact HC261.out); rintro e w37 ⟨rfl, hb⟩; refine ⟨_, rfl, ?_⟩; have n0_ := Aside0.mk (blk_below (g := gb255) (o := .cells #[.bool a2_0, .int .u64 a2_1, .int .u64 a2_2] 26 (0, 0)) (by (with_reducible repeat (first | refine blk_drewN ?_ _ | refine blk_drew ?_ | refine blk_alloc ?_ _)); exact BK255.out) hb); have n1_ := Aside0.mk (blk_below (g := gb256) (o := .cells #[.bool a3_0, .int .u64 a3_1, .int .u64 a3_2] 26 (0, 0)) (by (with_reducible repeat (first | refine blk_drewN ?_ _ | refine blk_drew ?_ | refine blk_alloc ?_ _)); exact BK256.out) hb); have n2_ := Aside0.mk (blk_below (g := gb257) (o := .cells #[.bool false, .int .i64 0, .int .i64 0, .int .i64 0, .string (⟨#[]⟩ : ByteArray)] 23 (0, 0)) (by (with_reducible repeat (first | refine blk_drewN ?_ _ | refine blk_drew ?_ | refine blk_alloc ?_ _)); exact BK257.out) hb); have n3_ := Aside0.mk (Kd.C_below (by repeat (first | (with_reducible exact HR261.out) | (with_reducible refine Kd.C_alloc ?_ _) | (with_reducible refine Kd.C_drewN ?_ _) | (with_reducible refine Kd.C_drew ?_) | exact HR261.out)) hb); have n4_ := Aside0.mk (below_step (by repeat (first | (with_reducible first | exact HB.out | apply below_alloc | apply pw_below_drewN | apply below_drew1 | refine below_set ?_ GE255.out | refine below_set ?_ GE256.out | refine below_set ?_ GE257.out) | exact HB.out)) hb); clear BK255; clear BK256; clear BK257; clear HR261; clear HB; have BK255 := n0_; have BK256 := n1_; have BK257 := n2_; have HR261 := n3_; have HB := n4_; clear n0_ n1_ n2_ n3_ n4_; (try clear hb); (try clear hb2); (try clear hk); (try clear hi); have hcz38_0 : w37.cell? ⟨gb257, 0, none⟩ = some (.bool false) := (blk_cell BK257.out 0).trans rfl; have hcz38_1 : w37.cell? ⟨gb257, 1, none⟩ = some (.int .i64 0) := (blk_cell BK257.out 1).trans rfl; have hcz38_2 : w37.cell? ⟨gb257, 2, none⟩ = some (.int .i64 0) := (blk_cell BK257.out 2).trans rfl; have hcz38_3 : w37.cell? ⟨gb257, 3, none⟩ = some (.int .i64 0) := (blk_cell BK257.out 3).trans rfl; have hcz38_4 : w37.cell? ⟨gb257, 4, none⟩ = some (.string (⟨#[]⟩ : ByteArray)) := (blk_cell BK257.out 4).trans rfl; have hfz38_0 := blk_frozen BK257.out 0; have hfz38_1 := blk_frozen BK257.out 1; have hfz38_2 := blk_frozen BK257.out 2; have hfz38_3 := blk_frozen BK257.out 3; have hfz38_4 := blk_frozen BK257.out 4))
        refine bodyPost_ret (results_ct rfl _ _ gb257 23 #[.bool false, .int .i64 0, .int .i64 0, .int .i64 0, .string (⟨#[]⟩ : ByteArray)] (0, 0) _ rfl (by (with_reducible repeat (first | refine blk_drewN ?_ _ | refine blk_drew ?_ | refine blk_alloc ?_ _)); refine blk_put (cs := #[.bool false, .int .i64 0, .int .i64 0, .int .i64 0, .string (⟨#[]⟩ : ByteArray)]) ?_ 4 _ rfl; (with_reducible repeat (first | refine blk_drewN ?_ _ | refine blk_drew ?_ | refine blk_alloc ?_ _)); refine blk_put (cs := #[.bool false, .int .i64 0, .int .i64 0, .int .i64 0, .string (⟨#[]⟩ : ByteArray)]) ?_ 3 _ rfl; (with_reducible repeat (first | refine blk_drewN ?_ _ | refine blk_drew ?_ | refine blk_alloc ?_ _)); refine blk_put (cs := #[.bool false, .int .i64 0, .int .i64 0, .int .i64 0, .string (⟨#[]⟩ : ByteArray)]) ?_ 2 _ rfl; (with_reducible repeat (first | refine blk_drewN ?_ _ | refine blk_drew ?_ | refine blk_alloc ?_ _)); refine blk_put (cs := #[.bool false, .int .i64 0, .int .i64 0, .int .i64 0, .string (⟨#[]⟩ : ByteArray)]) ?_ 1 _ rfl; (with_reducible repeat (first | refine blk_drewN ?_ _ | refine blk_drew ?_ | refine blk_alloc ?_ _)); refine blk_put (cs := #[.bool false, .int .i64 0, .int .i64 0, .int .i64 0, .string (⟨#[]⟩ : ByteArray)]) ?_ 0 _ rfl; (with_reducible repeat (first | refine blk_drewN ?_ _ | refine blk_drew ?_ | refine blk_alloc ?_ _)); exact BK257.out) Try.underlying23 rfl (by kernel_rfl)) rfl ?_
        exact ⟨by first | rfl | (simp [errW_none, errW_some] <;> rfl) | (simp [*, errW_none, errW_some] <;> rfl), by repeat (first | (with_reducible first | exact HB.out | apply below_alloc | apply pw_below_drewN | apply below_drew1 | refine below_set ?_ GE255.out | refine below_set ?_ GE256.out | refine below_set ?_ GE257.out) | exact HB.out)⟩
       ·
        rw [if_neg c30] at H
        have c30b0 : decide (65008 < (a0.size : Int)) = false := decide_eq_false c30
        have c30b1 : decide (65008 < a0.size) = false := decide_eq_false (by omega)
        clear c30
        by_cases c39 : 4 ≤ 8
        ·
         rw [if_pos c39] at H
         have c39b0 := eq_true c39
         have c39b1 : decide (4 ≤ 8) = true := decide_eq_true c39
         clear c39
         by_cases c40 : 8 ≤ (a0.size : Int)
         ·
          rw [if_pos c40] at H
          have c40b0 := eq_true c40
          have c40b1 : decide (8 ≤ (a0.size : Int)) = true := decide_eq_true c40
          clear c40
          by_cases c41 : ((a0.extract 4 8).size : Int) ≤ 140737488355200
          ·
           rw [if_pos c41] at H
           have c41b0 := eq_true c41
           have c41b1 : decide (((a0.extract 4 8).size : Int) ≤ 140737488355200) = true := decide_eq_true c41
           clear c41
           obtain ⟨y263, hy263⟩ : ∃ y_ : List Int, y_ = (bytesOf (a0.extract 4 8)) := ⟨_, rfl⟩
           replace H : ((crosswayref01_Get.f kj4 y263 0 4).bind fun bt267 => (if 0 < (a0.size : Int) then (if 1 < (a0.size : Int) then (some (a1, wrap64 (bt a0 0), wrap64 (bt a0 1), wrap64 (bt267.1), a0.extract 8 a0.size, 0)) else (none)) else (none))) = some (r1, r2, r3, r4, r5, r6) := by first | (rw [hy263]; with_reducible exact H) | (have H2_ := (Option.bind_some _ _).symm.trans H; rw [hy263]; with_reducible exact H2_) | (have H2_ := (Option.bind_some _ _).symm.trans H; with_reducible exact H2_) | with_reducible exact H | (rw [hy263]; exact H) | exact H
           have Ny263 := Aside0.mk hy263
           clear hy263
           replace H := Option.bind_eq_some_iff.mp H
           obtain ⟨⟨t267, t268⟩, A420, H⟩ := H
           replace H : (if 0 < (a0.size : Int) then (if 1 < (a0.size : Int) then (some (a1, wrap64 (bt a0 0), wrap64 (bt a0 1), wrap64 (t267), a0.extract 8 a0.size, 0)) else (none)) else (none)) = some (r1, r2, r3, r4, r5, r6) := H
           have A42 := Aside0.mk A420
           clear A420
           by_cases c43 : 0 < (a0.size : Int)
           ·
            rw [if_pos c43] at H
            have c43b0 : decide (0 < (a0.size : Int)) = true := decide_eq_true c43
            have c43b1 : decide (0 < a0.size) = true := decide_eq_true (by omega)
            clear c43
            by_cases c45 : 1 < (a0.size : Int)
            ·
             rw [if_pos c45] at H
             have c45b0 : decide (1 < (a0.size : Int)) = true := decide_eq_true c45
             have c45b1 : decide (1 < a0.size) = true := decide_eq_true (by omega)
             clear c45
             have c47b0 := eq_true (of_decide_eq_true (by first | (with_reducible assumption) | assumption) : 8 ≤ (a0.size : Int))
             simp only [Option.some.injEq, Prod.mk.injEq] at H
             obtain ⟨rfl, rfl, rfl, rfl, rfl, rfl⟩ := H
             try go_wp2_with (first | ((with_reducible refine gate_dst (N := 29) rfl ?_); refine MStr.bytes_event y258 rfl (N := 29) rfl 9 39 5 _ rfl a0 rfl Try.underlying9 Try.underlying39 Try.underlying5 (of_decide_eq_true (by first | (with_reducible assumption) | assumption)) Ny258.out ?_; intro A261 c261 w48 hC_ hcap_ hb; have n0_ := Aside0.mk (blk_below (g := gb255) (o := .cells #[.bool a2_0, .int .u64 a2_1, .int .u64 a2_2] 26 (0, 0)) (by (with_reducible repeat (first | refine blk_drewN ?_ _ | refine blk_drew ?_ | refine blk_alloc ?_ _)); exact BK255.out) hb); have n1_ := Aside0.mk (blk_below (g := gb256) (o := .cells #[.bool a3_0, .int .u64 a3_1, .int .u64 a3_2] 26 (0, 0)) (by (with_reducible repeat (first | refine blk_drewN ?_ _ | refine blk_drew ?_ | refine blk_alloc ?_ _)); exact BK256.out) hb); have n2_ := Aside0.mk (blk_below (g := gb257) (o := .cells #[.bool false, .int .i64 0, .int .i64 0, .int .i64 0, .string (⟨#[]⟩ : ByteArray)] 23 (0, 0)) (by (with_reducible repeat (first | refine blk_drewN ?_ _ | refine blk_drew ?_ | refine blk_alloc ?_ _)); exact BK257.out) hb); have n3_ := Aside0.mk (below_step (by repeat (first | (with_reducible first | exact HB.out | apply below_alloc | apply pw_below_drewN | apply below_drew1 | refine below_set ?_ GE255.out | refine below_set ?_ GE256.out | refine below_set ?_ GE257.out) | exact HB.out)) hb); clear BK255; clear BK256; clear BK257; clear HB; have BK255 := n0_; have BK256 := n1_; have BK257 := n2_; have HB := n3_; clear n0_ n1_ n2_ n3_; have HR261 := Aside0.mk hC_; have HC261 := Aside0.mk hcap_; clear hb hC_ hcap_; have hnb49 := NB255_256.out; have hnc49 := NB256_255.out; have hnb50 := NB255_257.out; have hnc50 := NB257_255.out; have hcz51_0 : w48.cell? ⟨gb255, 0, none⟩ = some (.bool a2_0) := (blk_cell BK255.out 0).trans rfl; have hcz51_1 : w48.cell? ⟨gb255, 1, none⟩ = some (.int .u64 a2_1) := (blk_cell BK255.out 1).trans rfl; have hcz51_2 : w48.cell? ⟨gb255, 2, none⟩ = some (.int .u64 a2_2) := (blk_cell BK255.out 2).trans rfl; have hfz51_0 := blk_frozen BK255.out 0; have hfz51_1 := blk_frozen BK255.out 1; have hfz51_2 := blk_frozen BK255.out 2; have hnb52 := NB256_257.out; have hnc52 := NB257_256.out; have hcz53_0 : w48.cell? ⟨gb256, 0, none⟩ = some (.bool a3_0) := (blk_cell BK256.out 0).trans rfl; have hcz53_1 : w48.cell? ⟨gb256, 1, none⟩ = some (.int .u64 a3_1) := (blk_cell BK256.out 1).trans rfl; have hcz53_2 : w48.cell? ⟨gb256, 2, none⟩ = some (.int .u64 a3_2) := (blk_cell BK256.out 2).trans rfl; have hfz53_0 := blk_frozen BK256.out 0; have hfz53_1 := blk_frozen BK256.out 1; have hfz53_2 := blk_frozen BK256.out 2) | ((with_reducible refine gate_callee (f := 25) rfl ?_); refine goesL_ (some 33) rfl rfl Try.func25 (by kernel_rfl) rfl #[.slice A261 y258.length c261, .bool a1, .agg #[.bool a2_0, .int .u64 a2_1, .int .u64 a2_2], .agg #[.bool a3_0, .int .u64 a3_1, .int .u64 a3_2]] rfl (by (try simp only [List.map_toArray, List.map_cons, List.map_nil]); first | done | rfl | (simp only [List.length_drop, List.length_take]; rfl)) ?_; (with_reducible refine (crosswayref08_sum.calls kj4 _ _ y258 a1 a2_0 a2_1 a2_2 a3_0 a3_1 a3_2 t262 _ ?side1 ?side2 A28.out).mono ?_); (case side1 => repeat (first | exact (by repeat (first | (with_reducible exact HR261.out) | (with_reducible refine Kd.C_alloc ?_ _) | (with_reducible refine Kd.C_drewN ?_ _) | (with_reducible refine Kd.C_drew ?_) | exact HR261.out)) | (with_reducible refine Kd.C_alloc ?_ _) | (with_reducible refine Kd.C_drewN ?_ _) | (with_reducible refine Kd.C_drew ?_))); (case side2 => exact HC261.out); rintro e w54 ⟨rfl, hb⟩; refine ⟨_, rfl, ?_⟩; have n0_ := Aside0.mk (blk_below (g := gb255) (o := .cells #[.bool a2_0, .int .u64 a2_1, .int .u64 a2_2] 26 (0, 0)) (by (with_reducible repeat (first | refine blk_drewN ?_ _ | refine blk_drew ?_ | refine blk_alloc ?_ _)); exact BK255.out) hb); have n1_ := Aside0.mk (blk_below (g := gb256) (o := .cells #[.bool a3_0, .int .u64 a3_1, .int .u64 a3_2] 26 (0, 0)) (by (with_reducible repeat (first | refine blk_drewN ?_ _ | refine blk_drew ?_ | refine blk_alloc ?_ _)); exact BK256.out) hb); have n2_ := Aside0.mk (blk_below (g := gb257) (o := .cells #[.bool false, .int .i64 0, .int .i64 0, .int .i64 0, .string (⟨#[]⟩ : ByteArray)] 23 (0, 0)) (by (with_reducible repeat (first | refine blk_drewN ?_ _ | refine blk_drew ?_ | refine blk_alloc ?_ _)); exact BK257.out) hb); have n3_ := Aside0.mk (Kd.C_below (by repeat (first | (with_reducible exact HR261.out) | (with_reducible refine Kd.C_alloc ?_ _) | (with_reducible refine Kd.C_drewN ?_ _) | (with_reducible refine Kd.C_drew ?_) | exact HR261.out)) hb); have n4_ := Aside0.mk (below_step (by repeat (first | (with_reducible first | exact HB.out | apply below_alloc | apply pw_below_drewN | apply below_drew1 | refine below_set ?_ GE255.out | refine below_set ?_ GE256.out | refine below_set ?_ GE257.out) | exact HB.out)) hb); clear BK255; clear BK256; clear BK257; clear HR261; clear HB; have BK255 := n0_; have BK256 := n1_; have BK257 := n2_; have HR261 := n3_; have HB := n4_; clear n0_ n1_ n2_ n3_ n4_; (try clear hb); (try clear hb2); (try clear hk); (try clear hi)) | ((with_reducible refine gate_dst (N := 43) rfl ?_); refine MStr.bytes_event y263 rfl (N := 43) rfl 9 39 5 _ rfl (a0.extract 4 8) rfl Try.underlying9 Try.underlying39 Try.underlying5 (of_decide_eq_true (by first | (with_reducible assumption) | assumption)) Ny263.out ?_; intro A266 c266 w55 hC_ hcap_ hb; have n0_ := Aside0.mk (blk_below (g := gb255) (o := .cells #[.bool a2_0, .int .u64 a2_1, .int .u64 a2_2] 26 (0, 0)) (by (with_reducible repeat (first | refine blk_drewN ?_ _ | refine blk_drew ?_ | refine blk_alloc ?_ _)); exact BK255.out) hb); have n1_ := Aside0.mk (blk_below (g := gb256) (o := .cells #[.bool a3_0, .int .u64 a3_1, .int .u64 a3_2] 26 (0, 0)) (by (with_reducible repeat (first | refine blk_drewN ?_ _ | refine blk_drew ?_ | refine blk_alloc ?_ _)); exact BK256.out) hb); have n2_ := Aside0.mk (blk_below (g := gb257) (o := .cells #[.bool false, .int .i64 0, .int .i64 0, .int .i64 0, .string (⟨#[]⟩ : ByteArray)] 23 (0, 0)) (by (with_reducible repeat (first | refine blk_drewN ?_ _ | refine blk_drew ?_ | refine blk_alloc ?_ _)); exact BK257.out) hb); have n3_ := Aside0.mk (Kd.C_below (by repeat (first | (with_reducible exact HR261.out) | (with_reducible refine Kd.C_alloc ?_ _) | (with_reducible refine Kd.C_drewN ?_ _) | (with_reducible refine Kd.C_drew ?_) | exact HR261.out)) hb); have n4_ := Aside0.mk (below_step (by repeat (first | (with_reducible first | exact HB.out | apply below_alloc | apply pw_below_drewN | apply below_drew1 | refine below_set ?_ GE255.out | refine below_set ?_ GE256.out | refine below_set ?_ GE257.out) | exact HB.out)) hb); clear BK255; clear BK256; clear BK257; clear HR261; clear HB; have BK255 := n0_; have BK256 := n1_; have BK257 := n2_; have HR261 := n3_; have HB := n4_; clear n0_ n1_ n2_ n3_ n4_; have HR266 := Aside0.mk hC_; have HC266 := Aside0.mk hcap_; clear hb hC_ hcap_) | ((with_reducible refine gate_callee (f := 27) rfl ?_); refine goesL_ (some 44) rfl rfl Try.func27 (by kernel_rfl) rfl #[.slice A266 y263.length c266, .int .i64 0, .int .i64 4] rfl (by (try simp only [List.map_toArray, List.map_cons, List.map_nil]); first | done | rfl | (simp only [List.length_drop, List.length_take]; rfl)) ?_; (with_reducible refine (crosswayref01_Get.calls kj4 _ _ y263 0 4 t267 t268 _ ?side1 ?side2 A42.out).mono ?_); (case side1 => repeat (first | exact (by repeat (first | (with_reducible exact HR266.out) | (with_reducible refine Kd.C_alloc ?_ _) | (with_reducible refine Kd.C_drewN ?_ _) | (with_reducible refine Kd.C_drew ?_) | exact HR266.out)) | (with_reducible refine Kd.C_alloc ?_ _) | (with_reducible refine Kd.C_drewN ?_ _) | (with_reducible refine Kd.C_drew ?_))); (case side2 => exact HC266.out); rintro e w' ⟨rfl, ⟨nd, rfl⟩⟩; refine ⟨_, rfl, ?_⟩; (try (rw [drewN_self w55]; generalize hq_ : World.drewN w55 _ = w55; have n0_ : Aside0 (w55.heap[gb255]? = some (.cells #[.bool a2_0, .int .u64 a2_1, .int .u64 a2_2] 26 (0, 0))) := ⟨by rw [← hq_]; exact (by (with_reducible repeat (first | refine blk_drewN ?_ _ | refine blk_drew ?_ | refine blk_alloc ?_ _)); exact BK255.out)⟩; have n1_ : Aside0 (w55.heap[gb256]? = some (.cells #[.bool a3_0, .int .u64 a3_1, .int .u64 a3_2] 26 (0, 0))) := ⟨by rw [← hq_]; exact (by (with_reducible repeat (first | refine blk_drewN ?_ _ | refine blk_drew ?_ | refine blk_alloc ?_ _)); exact BK256.out)⟩; have n2_ : Aside0 (w55.heap[gb257]? = some (.cells #[.bool false, .int .i64 0, .int .i64 0, .int .i64 0, .string (⟨#[]⟩ : ByteArray)] 23 (0, 0))) := ⟨by rw [← hq_]; exact (by (with_reducible repeat (first | refine blk_drewN ?_ _ | refine blk_drew ?_ | refine blk_alloc ?_ _)); exact BK257.out)⟩; have n3_ : Aside0 (Below w.heap.size w w55) := ⟨by rw [← hq_]; exact (by repeat (first | (with_reducible first | exact HB.out | apply below_alloc | apply pw_below_drewN | apply below_drew1 | refine below_set ?_ GE255.out | refine below_set ?_ GE256.out | refine below_set ?_ GE257.out) | exact HB.out))⟩; have n4_ : Aside0 (Kd.C (Kd.int .u8) w55 A261 y258.length y258) := ⟨by rw [← hq_]; exact (by repeat (first | (with_reducible exact HR261.out) | (with_reducible refine Kd.C_alloc ?_ _) | (with_reducible refine Kd.C_drewN ?_ _) | (with_reducible refine Kd.C_drew ?_) | exact HR261.out))⟩; have n5_ : Aside0 (Kd.C (Kd.int .u8) w55 A266 y263.length y263) := ⟨by rw [← hq_]; exact (by repeat (first | (with_reducible exact HR266.out) | (with_reducible refine Kd.C_alloc ?_ _) | (with_reducible refine Kd.C_drewN ?_ _) | (with_reducible refine Kd.C_drew ?_) | exact HR266.out))⟩; clear BK255 BK256 BK257 HB HR261 HR266 hq_; have BK255 := n0_; have BK256 := n1_; have BK257 := n2_; have HB := n3_; have HR261 := n4_; have HR266 := n5_; clear n0_ n1_ n2_ n3_ n4_ n5_))))
             have n0_ := Aside0.mk (blk_drew BK255.out)
             have n1_ := Aside0.mk (blk_drew BK256.out)
             have n2_ := Aside0.mk (blk_drew BK257.out)
             have n3_ := Aside0.mk (Kd.C_drew HR261.out)
             have n4_ := Aside0.mk (Kd.C_drew HR266.out)
             have n5_ := Aside0.mk (below_drew1 HB.out)
             clear BK255 BK256 BK257 HR261 HR266 HB
             have BK255 := n0_
             have BK256 := n1_
             have BK257 := n2_
             have HR261 := n3_
             have HR266 := n4_
             have HB := n5_
             clear n0_ n1_ n2_ n3_ n4_ n5_
             have p44 : 0 ≤ (0 : Int) := (by omega)
             have q44 : 0 < a0.size := (by have : (0 : Int) < (a0.size : Int) := of_decide_eq_true (by first | (with_reducible assumption) | assumption); omega)
             have hx44 : ∀ h : 0 < a0.size, ((a0[0]'h).toNat : Int) = bt a0 0 := bt_at a0 0
             clear p44
             have qi44 : (0 < (a0.size : Int)) = True := eq_true (of_decide_eq_true (by first | (with_reducible assumption) | assumption))
             replace q44 := eq_true q44
             have p46 : 0 ≤ (1 : Int) := (by omega)
             have q46 : 1 < a0.size := (by have : (1 : Int) < (a0.size : Int) := of_decide_eq_true (by first | (with_reducible assumption) | assumption); omega)
             have hx46 : ∀ h : 1 < a0.size, ((a0[1]'h).toNat : Int) = bt a0 1 := bt_at a0 1
             clear p46
             have qi46 : (1 < (a0.size : Int)) = True := eq_true (of_decide_eq_true (by first | (with_reducible assumption) | assumption))
             replace q46 := eq_true q46
             refine start_ (n := 14) (S := fun w' => True) (ds := []) #[false, false, false, false, false, false, false, false, false, false, false, false, false, false] (by kernel_rfl) rfl rfl trivial (fun hHeld => ?_); refine with_tabW crosswayref08_Take.tab10 crosswayref08_Take.bits10 (fun HT_ HW_ => ?_)
             generalize w55.drew = w56 at BK255 BK256 BK257 HR261 HR266 HB hHeld ⊢
             refine pure_ (i := 0) (N := some 47) (v := ?_) (a' := ?_) #[true, false, false, false, false, false, false, false, false, false, false, false, false, false] rfl rfl (any_of HT_.out (by kernel_rfl)) (fun _ _ _ h => h) (Or.inl ⟨by rfl, ?_⟩) ?_ ?_
             rotate_left
             ·
              intro w'
              go_simp
              with_reducible rfl
             rotate_left
             ·
              simp only [Act.put, List.setIfInBounds_toArray, List.set_cons_zero, List.set_cons_succ, i64_w, i32_w]
              rfl
             refine pure_ (i := 1) (N := some 48) (v := ?_) (a' := ?_) #[true, true, false, false, false, false, false, false, false, false, false, false, false, false] rfl rfl (any_of HT_.out (by kernel_rfl)) (fun _ _ _ h => h) (Or.inl ⟨by rfl, ?_⟩) ?_ ?_
             rotate_left
             ·
              intro w'
              go_simp
              with_reducible rfl
             rotate_left
             ·
              simp only [Act.put, List.setIfInBounds_toArray, List.set_cons_zero, List.set_cons_succ, i64_w, i32_w]
              rfl
             refine pure_ (i := 4) (N := some 51) (v := ?_) (a' := ?_) #[true, true, false, false, true, false, false, false, false, false, false, false, false, false] rfl rfl (any_of HT_.out (by kernel_rfl)) (fun _ _ _ h => h) (Or.inl ⟨by rfl, ?_⟩) ?_ ?_
             rotate_left
             ·
              intro w'
              go_simp
              with_reducible rfl
             rotate_left
             ·
              simp only [Act.put, List.setIfInBounds_toArray, List.set_cons_zero, List.set_cons_succ, i64_w, i32_w]
              rfl
             refine pure_ (i := 7) (N := some 54) (v := ?_) (a' := ?_) #[true, true, false, false, true, false, false, true, false, false, false, false, false, false] rfl rfl (any_of HT_.out (by kernel_rfl)) (fun _ _ _ h => h) (Or.inl ⟨by rfl, ?_⟩) ?_ ?_
             rotate_left
             ·
              intro w'
              go_simp
              with_reducible rfl
             rotate_left
             ·
              simp only [Act.put, List.setIfInBounds_toArray, List.set_cons_zero, List.set_cons_succ, i64_w, i32_w]
              rfl
             refine pure_ (i := 8) (N := some 55) (v := ?_) (a' := ?_) #[true, true, false, false, true, false, false, true, true, false, false, false, false, false] rfl rfl (any_of HT_.out (by kernel_rfl)) (fun _ _ _ h => h) (Or.inl ⟨by rfl, ?_⟩) ?_ ?_
             rotate_left
             ·
              intro w'
              go_simp
              with_reducible rfl
             rotate_left
             ·
              simp only [Act.put, List.setIfInBounds_toArray, List.set_cons_zero, List.set_cons_succ, i64_w, i32_w]
              rfl
             refine pure_ (i := 9) (N := some 56) (v := ?_) (a' := ?_) #[true, true, false, false, true, false, false, true, true, true, false, false, false, false] rfl rfl (any_of HT_.out (by kernel_rfl)) (fun _ _ _ h => h) (Or.inl ⟨by rfl, ?_⟩) ?_ ?_
             rotate_left
             ·
              intro w'
              go_simp
              with_reducible rfl
             rotate_left
             ·
              simp only [Act.put, List.setIfInBounds_toArray, List.set_cons_zero, List.set_cons_succ, i64_w, i32_w]
              rfl
             refine pure_ (i := 10) (N := some 57) (v := ?_) (a' := ?_) #[true, true, false, false, true, false, false, true, true, true, true, false, false, false] rfl rfl (any_of HT_.out (by kernel_rfl)) (fun _ _ _ h => h) (Or.inl ⟨by rfl, ?_⟩) ?_ ?_
             rotate_left
             ·
              intro w'
              go_simp
              with_reducible rfl
             rotate_left
             ·
              simp only [Act.put, List.setIfInBounds_toArray, List.set_cons_zero, List.set_cons_succ, i64_w, i32_w]
              rfl
             refine take_ (i := 2) (N := some 49) (v := ?_) (a' := ?_) #[true, true, true, false, true, false, false, true, true, true, true, false, false, false] rfl rfl (take_ofW HT_.out HW_.out (by kernel_rfl)) (fun _ _ _ h => h) (Or.inl ⟨by rfl, ?_⟩) hHeld ?_ ?_
             rotate_left
             ·
              intro w' _
              go_simp
              with_reducible rfl
             rotate_left
             ·
              simp only [Act.put, List.setIfInBounds_toArray, List.set_cons_zero, List.set_cons_succ, i64_w, i32_w]
              rfl
             refine pure_ (i := 3) (N := some 50) (v := ?_) (a' := ?_) #[true, true, true, true, true, false, false, true, true, true, true, false, false, false] rfl rfl (any_of HT_.out (by kernel_rfl)) (fun _ _ _ h => h) (Or.inl ⟨by rfl, ?_⟩) ?_ ?_
             rotate_left
             ·
              intro w'
              go_simp
              with_reducible rfl
             rotate_left
             ·
              simp only [Act.put, List.setIfInBounds_toArray, List.set_cons_zero, List.set_cons_succ, i64_w, i32_w]
              rfl
             refine take_ (i := 5) (N := some 52) (v := ?_) (a' := ?_) #[true, true, true, true, true, true, false, true, true, true, true, false, false, false] rfl rfl (take_ofW HT_.out HW_.out (by kernel_rfl)) (fun _ _ _ h => h) (Or.inl ⟨by rfl, ?_⟩) hHeld ?_ ?_
             rotate_left
             ·
              intro w' _
              go_simp
              with_reducible rfl
             rotate_left
             ·
              simp only [Act.put, List.setIfInBounds_toArray, List.set_cons_zero, List.set_cons_succ, i64_w, i32_w]
              rfl
             refine pure_ (i := 6) (N := some 53) (v := ?_) (a' := ?_) #[true, true, true, true, true, true, true, true, true, true, true, false, false, false] rfl rfl (any_of HT_.out (by kernel_rfl)) (fun _ _ _ h => h) (Or.inl ⟨by rfl, ?_⟩) ?_ ?_
             rotate_left
             ·
              intro w'
              go_simp
              with_reducible rfl
             rotate_left
             ·
              simp only [Act.put, List.setIfInBounds_toArray, List.set_cons_zero, List.set_cons_succ, i64_w, i32_w]
              rfl
             refine pure_ (i := 11) (N := some 58) (v := ?_) (a' := ?_) #[true, true, true, true, true, true, true, true, true, true, true, true, false, false] rfl rfl (any_of HT_.out (by kernel_rfl)) (fun _ _ _ h => h) (Or.inl ⟨by rfl, ?_⟩) ?_ ?_
             rotate_left
             ·
              intro w'
              go_simp
              with_reducible rfl
             rotate_left
             ·
              simp only [Act.put, List.setIfInBounds_toArray, List.set_cons_zero, List.set_cons_succ, i64_w, i32_w]
              rfl
             refine one_ (i := 12) (N := none) #[true, true, true, true, true, true, true, true, true, true, true, true, true, false] rfl rfl (one_of HT_.out (by kernel_rfl)) (by decide) (fun K hK => ?_)
             have hs57 : w56.cell? ⟨gb257, 0, none⟩ = some (.bool false) := (blk_cell BK257.out 0).trans rfl
             have hfs57 := blk_frozen BK257.out 0
             have hns57_0 := NB255_257.out
             have hns57_1 := NB256_257.out
             have hms57_0 := NB257_255.out
             have hms57_1 := NB257_256.out
             have hs58 : w56.cell? ⟨gb257, 1, none⟩ = some (.int .i64 0) := (blk_cell BK257.out 1).trans rfl
             have hfs58 := blk_frozen BK257.out 1
             have hns58_0 := NB255_257.out
             have hns58_1 := NB256_257.out
             have hms58_0 := NB257_255.out
             have hms58_1 := NB257_256.out
             have hs59 : w56.cell? ⟨gb257, 2, none⟩ = some (.int .i64 0) := (blk_cell BK257.out 2).trans rfl
             have hfs59 := blk_frozen BK257.out 2
             have hns59_0 := NB255_257.out
             have hns59_1 := NB256_257.out
             have hms59_0 := NB257_255.out
             have hms59_1 := NB257_256.out
             have hs60 : w56.cell? ⟨gb257, 3, none⟩ = some (.int .i64 0) := (blk_cell BK257.out 3).trans rfl
             have hfs60 := blk_frozen BK257.out 3
             have hns60_0 := NB255_257.out
             have hns60_1 := NB256_257.out
             have hms60_0 := NB257_255.out
             have hms60_1 := NB257_256.out
             have hs61 : w56.cell? ⟨gb257, 4, none⟩ = some (.string (⟨#[]⟩ : ByteArray)) := (blk_cell BK257.out 4).trans rfl
             have hfs61 := blk_frozen BK257.out 4
             have hns61_0 := NB255_257.out
             have hns61_1 := NB256_257.out
             have hms61_0 := NB257_255.out
             have hms61_1 := NB257_256.out
             refine skip_ (w1 := ?_) (by rfl) rfl ?_ ?_
             rotate_left
             ·
              go_simp
              rfl
             refine hK.out _ _ trivial (fun hHeld => ?_)
             clear hK K
             refine pure_ (i := 13) (N := some 9) (v := ?_) (a' := ?_) #[true, true, true, true, true, true, true, true, true, true, true, true, true, true] rfl rfl (any_of HT_.out (by kernel_rfl)) (fun _ _ _ h => h) (Or.inl ⟨by rfl, ?_⟩) ?_ ?_
             rotate_left
             ·
              intro w'
              go_simp
              with_reducible rfl
             rotate_left
             ·
              simp only [Act.put, List.setIfInBounds_toArray, List.set_cons_zero, List.set_cons_succ, i64_w, i32_w]
              rfl
             refine done_ (done_of HT_.out (by kernel_rfl)) ?_
             try go_wp2
             refine bodyPost_ret (results_ct rfl _ _ gb257 23 #[.bool a1, .int .i64 (wrap64 (bt a0 0)), .int .i64 (wrap64 (bt a0 1)), .int .i64 (wrap64 (t267)), .string (a0.extract 8 a0.size)] (0, 0) _ rfl (by (with_reducible repeat (first | refine blk_drewN ?_ _ | refine blk_drew ?_ | refine blk_alloc ?_ _)); refine blk_put (cs := #[.bool a1, .int .i64 (wrap64 (bt a0 0)), .int .i64 (wrap64 (bt a0 1)), .int .i64 (wrap64 (t267)), .string (⟨#[]⟩ : ByteArray)]) ?_ 4 _ rfl; (with_reducible repeat (first | refine blk_drewN ?_ _ | refine blk_drew ?_ | refine blk_alloc ?_ _)); refine blk_put (cs := #[.bool a1, .int .i64 (wrap64 (bt a0 0)), .int .i64 (wrap64 (bt a0 1)), .int .i64 0, .string (⟨#[]⟩ : ByteArray)]) ?_ 3 _ rfl; (with_reducible repeat (first | refine blk_drewN ?_ _ | refine blk_drew ?_ | refine blk_alloc ?_ _)); refine blk_put (cs := #[.bool a1, .int .i64 (wrap64 (bt a0 0)), .int .i64 0, .int .i64 0, .string (⟨#[]⟩ : ByteArray)]) ?_ 2 _ rfl; (with_reducible repeat (first | refine blk_drewN ?_ _ | refine blk_drew ?_ | refine blk_alloc ?_ _)); refine blk_put (cs := #[.bool a1, .int .i64 0, .int .i64 0, .int .i64 0, .string (⟨#[]⟩ : ByteArray)]) ?_ 1 _ rfl; (with_reducible repeat (first | refine blk_drewN ?_ _ | refine blk_drew ?_ | refine blk_alloc ?_ _)); refine blk_put (cs := #[.bool false, .int .i64 0, .int .i64 0, .int .i64 0, .string (⟨#[]⟩ : ByteArray)]) ?_ 0 _ rfl; (with_reducible repeat (first | refine blk_drewN ?_ _ | refine blk_drew ?_ | refine blk_alloc ?_ _)); exact BK257.out) Try.underlying23 rfl (by kernel_rfl)) rfl ?_
             exact ⟨by first | rfl | (simp [errW_none, errW_some] <;> rfl) | (simp [*, errW_none, errW_some] <;> rfl), by repeat (first | (with_reducible first | exact HB.out | apply below_alloc | apply pw_below_drewN | apply below_drew1 | refine below_set ?_ GE255.out | refine below_set ?_ GE256.out | refine below_set ?_ GE257.out) | exact HB.out)⟩
            ·
             rw [if_neg c45] at H
             exact absurd H (by simp)
           ·
            rw [if_neg c43] at H
            exact absurd H (by simp)
          ·
           rw [if_neg c41] at H
           exact absurd H (by simp)
         ·
          rw [if_neg c40] at H
          exact absurd H (by simp)
        ·
         rw [if_neg c39] at H
         exact absurd H (by simp)
      ·
       rw [if_neg c29] at H
       have c29b0 : (t262 == 65535) = false := beq_eq_false_iff_ne.mpr c29
       have c29b1 : (t262 != 65535) = true := bne_iff_ne.mpr c29
       simp only [Option.some.injEq, Prod.mk.injEq] at H
       obtain ⟨rfl, rfl, rfl, rfl, rfl, rfl⟩ := H
       go_wp2_with (first | ((with_reducible refine gate_dst (N := 29) rfl ?_); refine MStr.bytes_event y258 rfl (N := 29) rfl 9 39 5 _ rfl a0 rfl Try.underlying9 Try.underlying39 Try.underlying5 (of_decide_eq_true (by first | (with_reducible assumption) | assumption)) Ny258.out ?_; intro A261 c261 w62 hC_ hcap_ hb; have n0_ := Aside0.mk (blk_below (g := gb255) (o := .cells #[.bool a2_0, .int .u64 a2_1, .int .u64 a2_2] 26 (0, 0)) (by (with_reducible repeat (first | refine blk_drewN ?_ _ | refine blk_drew ?_ | refine blk_alloc ?_ _)); exact BK255.out) hb); have n1_ := Aside0.mk (blk_below (g := gb256) (o := .cells #[.bool a3_0, .int .u64 a3_1, .int .u64 a3_2] 26 (0, 0)) (by (with_reducible repeat (first | refine blk_drewN ?_ _ | refine blk_drew ?_ | refine blk_alloc ?_ _)); exact BK256.out) hb); have n2_ := Aside0.mk (blk_below (g := gb257) (o := .cells #[.bool false, .int .i64 0, .int .i64 0, .int .i64 0, .string (⟨#[]⟩ : ByteArray)] 23 (0, 0)) (by (with_reducible repeat (first | refine blk_drewN ?_ _ | refine blk_drew ?_ | refine blk_alloc ?_ _)); exact BK257.out) hb); have n3_ := Aside0.mk (below_step (by repeat (first | (with_reducible first | exact HB.out | apply below_alloc | apply pw_below_drewN | apply below_drew1 | refine below_set ?_ GE255.out | refine below_set ?_ GE256.out | refine below_set ?_ GE257.out) | exact HB.out)) hb); clear BK255; clear BK256; clear BK257; clear HB; have BK255 := n0_; have BK256 := n1_; have BK257 := n2_; have HB := n3_; clear n0_ n1_ n2_ n3_; have HR261 := Aside0.mk hC_; have HC261 := Aside0.mk hcap_; clear hb hC_ hcap_; have hnb63 := NB255_256.out; have hnc63 := NB256_255.out; have hnb64 := NB255_257.out; have hnc64 := NB257_255.out; have hcz65_0 : w62.cell? ⟨gb255, 0, none⟩ = some (.bool a2_0) := (blk_cell BK255.out 0).trans rfl; have hcz65_1 : w62.cell? ⟨gb255, 1, none⟩ = some (.int .u64 a2_1) := (blk_cell BK255.out 1).trans rfl; have hcz65_2 : w62.cell? ⟨gb255, 2, none⟩ = some (.int .u64 a2_2) := (blk_cell BK255.out 2).trans rfl; have hfz65_0 := blk_frozen BK255.out 0; have hfz65_1 := blk_frozen BK255.out 1; have hfz65_2 := blk_frozen BK255.out 2; have hnb66 := NB256_257.out; have hnc66 := NB257_256.out; have hcz67_0 : w62.cell? ⟨gb256, 0, none⟩ = some (.bool a3_0) := (blk_cell BK256.out 0).trans rfl; have hcz67_1 : w62.cell? ⟨gb256, 1, none⟩ = some (.int .u64 a3_1) := (blk_cell BK256.out 1).trans rfl; have hcz67_2 : w62.cell? ⟨gb256, 2, none⟩ = some (.int .u64 a3_2) := (blk_cell BK256.out 2).trans rfl; have hfz67_0 := blk_frozen BK256.out 0; have hfz67_1 := blk_frozen BK256.out 1; have hfz67_2 := blk_frozen BK256.out 2) | ((with_reducible refine gate_callee (f := 25) rfl ?_); refine goesL_ (some 33) rfl rfl Try.func25 (by kernel_rfl) rfl #[.slice A261 y258.length c261, .bool a1, .agg #[.bool a2_0, .int .u64 a2_1, .int .u64 a2_2], .agg #[.bool a3_0, .int .u64 a3_1, .int .u64 a3_2]] rfl (by (try simp only [List.map_toArray, List.map_cons, List.map_nil]); first | done | rfl | (simp only [List.length_drop, List.length_take]; rfl)) ?_; (with_reducible refine (crosswayref08_sum.calls kj4 _ _ y258 a1 a2_0 a2_1 a2_2 a3_0 a3_1 a3_2 t262 _ ?side1 ?side2 A28.out).mono ?_); (case side1 => repeat (first | exact (by repeat (first | (with_reducible exact HR261.out) | (with_reducible refine Kd.C_alloc ?_ _) | (with_reducible refine Kd.C_drewN ?_ _) | (with_reducible refine Kd.C_drew ?_) | exact HR261.out)) | (with_reducible refine Kd.C_alloc ?_ _) | (with_reducible refine Kd.C_drewN ?_ _) | (with_reducible refine Kd.C_drew ?_))); (case side2 => exact HC261.out); rintro e w68 ⟨rfl, hb⟩; refine ⟨_, rfl, ?_⟩; have n0_ := Aside0.mk (blk_below (g := gb255) (o := .cells #[.bool a2_0, .int .u64 a2_1, .int .u64 a2_2] 26 (0, 0)) (by (with_reducible repeat (first | refine blk_drewN ?_ _ | refine blk_drew ?_ | refine blk_alloc ?_ _)); exact BK255.out) hb); have n1_ := Aside0.mk (blk_below (g := gb256) (o := .cells #[.bool a3_0, .int .u64 a3_1, .int .u64 a3_2] 26 (0, 0)) (by (with_reducible repeat (first | refine blk_drewN ?_ _ | refine blk_drew ?_ | refine blk_alloc ?_ _)); exact BK256.out) hb); have n2_ := Aside0.mk (blk_below (g := gb257) (o := .cells #[.bool false, .int .i64 0, .int .i64 0, .int .i64 0, .string (⟨#[]⟩ : ByteArray)] 23 (0, 0)) (by (with_reducible repeat (first | refine blk_drewN ?_ _ | refine blk_drew ?_ | refine blk_alloc ?_ _)); exact BK257.out) hb); have n3_ := Aside0.mk (Kd.C_below (by repeat (first | (with_reducible exact HR261.out) | (with_reducible refine Kd.C_alloc ?_ _) | (with_reducible refine Kd.C_drewN ?_ _) | (with_reducible refine Kd.C_drew ?_) | exact HR261.out)) hb); have n4_ := Aside0.mk (below_step (by repeat (first | (with_reducible first | exact HB.out | apply below_alloc | apply pw_below_drewN | apply below_drew1 | refine below_set ?_ GE255.out | refine below_set ?_ GE256.out | refine below_set ?_ GE257.out) | exact HB.out)) hb); clear BK255; clear BK256; clear BK257; clear HR261; clear HB; have BK255 := n0_; have BK256 := n1_; have BK257 := n2_; have HR261 := n3_; have HB := n4_; clear n0_ n1_ n2_ n3_ n4_; (try clear hb); (try clear hb2); (try clear hk); (try clear hi); have hcz69_0 : w68.cell? ⟨gb257, 0, none⟩ = some (.bool false) := (blk_cell BK257.out 0).trans rfl; have hcz69_1 : w68.cell? ⟨gb257, 1, none⟩ = some (.int .i64 0) := (blk_cell BK257.out 1).trans rfl; have hcz69_2 : w68.cell? ⟨gb257, 2, none⟩ = some (.int .i64 0) := (blk_cell BK257.out 2).trans rfl; have hcz69_3 : w68.cell? ⟨gb257, 3, none⟩ = some (.int .i64 0) := (blk_cell BK257.out 3).trans rfl; have hcz69_4 : w68.cell? ⟨gb257, 4, none⟩ = some (.string (⟨#[]⟩ : ByteArray)) := (blk_cell BK257.out 4).trans rfl; have hfz69_0 := blk_frozen BK257.out 0; have hfz69_1 := blk_frozen BK257.out 1; have hfz69_2 := blk_frozen BK257.out 2; have hfz69_3 := blk_frozen BK257.out 3; have hfz69_4 := blk_frozen BK257.out 4))
       refine bodyPost_ret (results_ct rfl _ _ gb257 23 #[.bool false, .int .i64 0, .int .i64 0, .int .i64 0, .string (⟨#[]⟩ : ByteArray)] (0, 0) _ rfl (by (with_reducible repeat (first | refine blk_drewN ?_ _ | refine blk_drew ?_ | refine blk_alloc ?_ _)); refine blk_put (cs := #[.bool false, .int .i64 0, .int .i64 0, .int .i64 0, .string (⟨#[]⟩ : ByteArray)]) ?_ 4 _ rfl; (with_reducible repeat (first | refine blk_drewN ?_ _ | refine blk_drew ?_ | refine blk_alloc ?_ _)); refine blk_put (cs := #[.bool false, .int .i64 0, .int .i64 0, .int .i64 0, .string (⟨#[]⟩ : ByteArray)]) ?_ 3 _ rfl; (with_reducible repeat (first | refine blk_drewN ?_ _ | refine blk_drew ?_ | refine blk_alloc ?_ _)); refine blk_put (cs := #[.bool false, .int .i64 0, .int .i64 0, .int .i64 0, .string (⟨#[]⟩ : ByteArray)]) ?_ 2 _ rfl; (with_reducible repeat (first | refine blk_drewN ?_ _ | refine blk_drew ?_ | refine blk_alloc ?_ _)); refine blk_put (cs := #[.bool false, .int .i64 0, .int .i64 0, .int .i64 0, .string (⟨#[]⟩ : ByteArray)]) ?_ 1 _ rfl; (with_reducible repeat (first | refine blk_drewN ?_ _ | refine blk_drew ?_ | refine blk_alloc ?_ _)); refine blk_put (cs := #[.bool false, .int .i64 0, .int .i64 0, .int .i64 0, .string (⟨#[]⟩ : ByteArray)]) ?_ 0 _ rfl; (with_reducible repeat (first | refine blk_drewN ?_ _ | refine blk_drew ?_ | refine blk_alloc ?_ _)); exact BK257.out) Try.underlying23 rfl (by kernel_rfl)) rfl ?_
       exact ⟨by first | rfl | (simp [errW_none, errW_some] <;> rfl) | (simp [*, errW_none, errW_some] <;> rfl), by repeat (first | (with_reducible first | exact HB.out | apply below_alloc | apply pw_below_drewN | apply below_drew1 | refine below_set ?_ GE255.out | refine below_set ?_ GE256.out | refine below_set ?_ GE257.out) | exact HB.out)⟩
     ·
      rw [if_neg c27] at H
      exact absurd H (by simp)

/-! ### crosswaylaw08_IcmpTakes: function 4 -/
def crosswaylaw08_IcmpTakes.f (k : Nat) (a0 : ByteArray) (a1 : Bool) (a2_0 : Bool) (a2_1 : Int) (a2_2 : Int) (a2_3 : Bool) (a2_4 : Int) (a2_5 : Int) : Option (Bool) := (crosswaylaw08_awake.f).bind fun t270 => ((icmp_Take.f k a0 a1 a2_0 a2_1 a2_2 a2_3 a2_4 a2_5).bind fun bt271 => ((crosswayref08_Take.f k a0 a1 a2_0 a2_1 a2_2 a2_3 a2_4 a2_5).bind fun bt278 => (if t270 = true then (if (bt271.1 == bt278.1 && (bt271.2.1 == bt278.2.1 && (bt271.2.2.1 == bt278.2.2.1 && (bt271.2.2.2.1 == bt278.2.2.2.1 && (bt271.2.2.2.2.1.toList == bt278.2.2.2.2.1.toList))))) = true then (some (bt271.2.2.2.2.2 == bt278.2.2.2.2.2)) else (some false)) else (some false))))
theorem crosswaylaw08_IcmpTakes.mono : ∀ a0 a1 a2 a3 a4 a5 a6 a7 k, LeO (crosswaylaw08_IcmpTakes.f k a0 a1 a2 a3 a4 a5 a6 a7) (crosswaylaw08_IcmpTakes.f (k + 1) a0 a1 a2 a3 a4 a5 a6 a7) := by
 intro a0 a1 a2 a3 a4 a5 a6 a7 k
 unfold crosswaylaw08_IcmpTakes.f
 repeat' first
   | (with_reducible exact crosswayref08_Take.mono _ _ _ _ _ _ _ _ _)
   | (with_reducible exact icmp_Take.mono _ _ _ _ _ _ _ _ _)
   | (with_reducible exact LeO.refl _)
   | (with_reducible exact LeO.none _)
   | (with_reducible refine LeO.ite ?_ ?_)
   | (with_reducible refine LeO.bind ?_ (fun _ => ?_))
   | exact crosswayref08_Take.mono _ _ _ _ _ _ _ _ _
   | exact icmp_Take.mono _ _ _ _ _ _ _ _ _
   | exact LeO.none _
   | refine LeO.ite ?_ ?_
   | refine LeO.bind ?_ (fun _ => ?_)
set_option maxHeartbeats 8000000 in
set_option maxRecDepth 100000 in
theorem crosswaylaw08_IcmpTakes.calls (k : Nat) (a0 : ByteArray) (a1 : Bool) (a2_0 : Bool) (a2_1 : Int) (a2_2 : Int) (a2_3 : Bool) (a2_4 : Int) (a2_5 : Int) (r : Bool) (w : World) (h : crosswaylaw08_IcmpTakes.f k a0 a1 a2_0 a2_1 a2_2 a2_3 a2_4 a2_5 = some r) :
  Calls Try.prog 4 #[.string a0, .bool a1, .agg #[.bool a2_0, .int .u64 a2_1, .int .u64 a2_2, .bool a2_3, .int .u64 a2_4, .int .u64 a2_5]] w fun e w' => e = .returned (.bool r) ∧ Below w.heap.size w w' := by
 have hu28 := Try.underlying28
 have hu26 := Try.underlying26
 have hu23 := Try.underlying23
 have HB := Aside0.mk (Below.refl w.heap.size w)
 have H : ((crosswaylaw08_awake.f).bind fun t270 => ((icmp_Take.f k a0 a1 a2_0 a2_1 a2_2 a2_3 a2_4 a2_5).bind fun bt271 => ((crosswayref08_Take.f k a0 a1 a2_0 a2_1 a2_2 a2_3 a2_4 a2_5).bind fun bt278 => (if t270 = true then (if (bt271.1 == bt278.1 && (bt271.2.1 == bt278.2.1 && (bt271.2.2.1 == bt278.2.2.1 && (bt271.2.2.2.1 == bt278.2.2.2.1 && (bt271.2.2.2.2.1.toList == bt278.2.2.2.2.1.toList))))) = true then (some (bt271.2.2.2.2.2 == bt278.2.2.2.2.2)) else (some false)) else (some false))))) = some r := h
 clear h
 replace H := Option.bind_eq_some_iff.mp H
 obtain ⟨t270, A40, H⟩ := H
 replace H : ((icmp_Take.f k a0 a1 a2_0 a2_1 a2_2 a2_3 a2_4 a2_5).bind fun bt271 => ((crosswayref08_Take.f k a0 a1 a2_0 a2_1 a2_2 a2_3 a2_4 a2_5).bind fun bt278 => (if t270 = true then (if (bt271.1 == bt278.1 && (bt271.2.1 == bt278.2.1 && (bt271.2.2.1 == bt278.2.2.1 && (bt271.2.2.2.1 == bt278.2.2.2.1 && (bt271.2.2.2.2.1.toList == bt278.2.2.2.2.1.toList))))) = true then (some (bt271.2.2.2.2.2 == bt278.2.2.2.2.2)) else (some false)) else (some false)))) = some r := H
 have A4 := Aside0.mk A40
 clear A40
 replace H := Option.bind_eq_some_iff.mp H
 obtain ⟨⟨t271, t272, t273, t274, t275, t276⟩, A50, H⟩ := H
 replace H : ((crosswayref08_Take.f k a0 a1 a2_0 a2_1 a2_2 a2_3 a2_4 a2_5).bind fun bt278 => (if t270 = true then (if (t271 == bt278.1 && (t272 == bt278.2.1 && (t273 == bt278.2.2.1 && (t274 == bt278.2.2.2.1 && (t275.toList == bt278.2.2.2.2.1.toList))))) = true then (some (t276 == bt278.2.2.2.2.2)) else (some false)) else (some false))) = some r := H
 have A5 := Aside0.mk A50
 clear A50
 replace H := Option.bind_eq_some_iff.mp H
 obtain ⟨⟨t278, t279, t280, t281, t282, t283⟩, A60, H⟩ := H
 replace H : (if t270 = true then (if (t271 == t278 && (t272 == t279 && (t273 == t280 && (t274 == t281 && (t275.toList == t282.toList))))) = true then (some (t276 == t283)) else (some false)) else (some false)) = some r := H
 have A6 := Aside0.mk A60
 clear A60
 by_cases c7 : t270 = true
 ·
  subst c7
  have H1 : (if (t271 == t278 && (t272 == t279 && (t273 == t280 && (t274 == t281 && (t275.toList == t282.toList))))) = true then (some (t276 == t283)) else (some false)) = some r := by rw [if_pos rfl] at H; exact H
  clear H
  have H := H1
  clear H1
  by_cases c8 : (t271 == t278 && (t272 == t279 && (t273 == t280 && (t274 == t281 && (t275.toList == t282.toList))))) = true
  ·
   rw [if_pos c8] at H
   have c8b0 : (t271 == t278 && (t272 == t279 && (t273 == t280 && (t274 == t281 && (t275.toList == t282.toList))))) = true := c8
   (try (have c8b1 : decide (t271 = t278 && (t272 == t279 && (t273 == t280 && (t274 == t281 && (t275.toList == t282.toList))))) = true := by simpa using c8))
   (try (have c8b2 : (t271 == t278 && (t272 == t279 && (t273 == t280 && (t274 == t281 && (t275.toList == t282.toList))))) = true := by simpa using c8))
   clear c8
   obtain rfl := Option.some.inj H
   go_enter Try.func4, Try.ntmps4
   go_wp2_with (first | ((with_reducible refine gate_dst (N := 5) rfl ?_); refine box_event ?hg (N := 5) ?hd (cs := #[.bool a2_0, .int .u64 a2_1, .int .u64 a2_2, .bool a2_3, .int .u64 a2_4, .int .u64 a2_5]) (t := 28) ?hr ?_; (case hd => rfl); (case hg => rfl); (case hr => first | (go_simp; done) | (go_simp; rfl)); intro gb269 hg w9 hbox hb; have n0_ := Aside0.mk (below_step (by repeat (first | (with_reducible first | exact HB.out | apply below_alloc | apply pw_below_drewN | apply below_drew1) | exact HB.out)) hb); have n1_ := Aside0.mk (hbox); have n2_ := Aside0.mk ((by rw [hg]; exact (below_size (by repeat (first | (with_reducible first | exact HB.out | apply below_alloc | apply pw_below_drewN | apply below_drew1) | exact HB.out))) : w.heap.size ≤ gb269)); have n3_ := Aside0.mk ((by rw [hg]; exact (below_size (by repeat (first | (with_reducible first | exact HB.out | apply below_alloc | apply pw_below_drewN | apply below_drew1) | exact HB.out))) : w.heap.size ≤ gb269)); clear HB; have HB := n0_; have BK269 := n1_; have GW269 := n2_; have GE269 := n3_; clear n0_ n1_ n2_ n3_; clear hb hbox hg) | ((with_reducible refine gate_callee (f := 10) rfl ?_); refine goesL_ (some 12) rfl rfl Try.func10 (by kernel_rfl) rfl #[] rfl (by (try simp only [List.map_toArray, List.map_cons, List.map_nil]); first | done | rfl | (simp only [List.length_drop, List.length_take]; rfl)) ?_; (with_reducible refine (crosswaylaw08_awake.calls  true _ A4.out).mono ?_); rintro e w10 ⟨rfl, hb⟩; refine ⟨_, rfl, ?_⟩; have n0_ := Aside0.mk (blk_below (g := gb269) (o := .cells #[.bool a2_0, .int .u64 a2_1, .int .u64 a2_2, .bool a2_3, .int .u64 a2_4, .int .u64 a2_5] 28 (0, 0)) (by (with_reducible repeat (first | refine blk_drewN ?_ _ | refine blk_drew ?_ | refine blk_alloc ?_ _)); exact BK269.out) hb); have n1_ := Aside0.mk (below_step (by repeat (first | (with_reducible first | exact HB.out | apply below_alloc | apply pw_below_drewN | apply below_drew1 | refine below_set ?_ GE269.out) | exact HB.out)) hb); clear BK269; clear HB; have BK269 := n0_; have HB := n1_; clear n0_ n1_; (try clear hb); (try clear hb2); (try clear hk); (try clear hi); have hcz11_0 : w10.cell? ⟨gb269, 0, none⟩ = some (.bool a2_0) := (blk_cell BK269.out 0).trans rfl; have hcz11_1 : w10.cell? ⟨gb269, 1, none⟩ = some (.int .u64 a2_1) := (blk_cell BK269.out 1).trans rfl; have hcz11_2 : w10.cell? ⟨gb269, 2, none⟩ = some (.int .u64 a2_2) := (blk_cell BK269.out 2).trans rfl; have hcz11_3 : w10.cell? ⟨gb269, 3, none⟩ = some (.bool a2_3) := (blk_cell BK269.out 3).trans rfl; have hcz11_4 : w10.cell? ⟨gb269, 4, none⟩ = some (.int .u64 a2_4) := (blk_cell BK269.out 4).trans rfl; have hcz11_5 : w10.cell? ⟨gb269, 5, none⟩ = some (.int .u64 a2_5) := (blk_cell BK269.out 5).trans rfl; have hfz11_0 := blk_frozen BK269.out 0; have hfz11_1 := blk_frozen BK269.out 1; have hfz11_2 := blk_frozen BK269.out 2; have hfz11_3 := blk_frozen BK269.out 3; have hfz11_4 := blk_frozen BK269.out 4; have hfz11_5 := blk_frozen BK269.out 5) | ((with_reducible refine gate_callee (f := 13) rfl ?_); refine goesL_ (some 20) rfl rfl Try.func13 (by kernel_rfl) rfl #[.string a0, .bool a1, .agg #[.bool a2_0, .int .u64 a2_1, .int .u64 a2_2], .agg #[.bool a2_3, .int .u64 a2_4, .int .u64 a2_5]] rfl (by (try simp only [List.map_toArray, List.map_cons, List.map_nil]); first | done | rfl | (simp only [List.length_drop, List.length_take]; rfl)) ?_; (with_reducible refine (icmp_Take.calls k a0 a1 a2_0 a2_1 a2_2 a2_3 a2_4 a2_5 t271 t272 t273 t274 t275 t276 _ A5.out).mono ?_); rintro e w12 ⟨rfl, hb⟩; refine ⟨_, rfl, ?_⟩; have n0_ := Aside0.mk (blk_below (g := gb269) (o := .cells #[.bool a2_0, .int .u64 a2_1, .int .u64 a2_2, .bool a2_3, .int .u64 a2_4, .int .u64 a2_5] 28 (0, 0)) (by (with_reducible repeat (first | refine blk_drewN ?_ _ | refine blk_drew ?_ | refine blk_alloc ?_ _)); exact BK269.out) hb); have n1_ := Aside0.mk (below_step (by repeat (first | (with_reducible first | exact HB.out | apply below_alloc | apply pw_below_drewN | apply below_drew1 | refine below_set ?_ GE269.out) | exact HB.out)) hb); clear BK269; clear HB; have BK269 := n0_; have HB := n1_; clear n0_ n1_; (try clear hb); (try clear hb2); (try clear hk); (try clear hi)) | ((with_reducible refine gate_dst (N := 8) rfl ?_); refine box_event ?hg (N := 8) ?hd (cs := #[.bool false, .int .i64 0, .int .i64 0, .int .i64 0, .string (⟨#[]⟩ : ByteArray)]) (t := 23) ?hr ?_; (case hd => rfl); (case hg => rfl); (case hr => first | (go_simp; done) | (go_simp; rfl)); intro gb277 hg w13 hbox hb; have n0_ := Aside0.mk (blk_below (g := gb269) (o := .cells #[.bool a2_0, .int .u64 a2_1, .int .u64 a2_2, .bool a2_3, .int .u64 a2_4, .int .u64 a2_5] 28 (0, 0)) (by (with_reducible repeat (first | refine blk_drewN ?_ _ | refine blk_drew ?_ | refine blk_alloc ?_ _)); exact BK269.out) hb); have n1_ := Aside0.mk (below_step (by repeat (first | (with_reducible first | exact HB.out | apply below_alloc | apply pw_below_drewN | apply below_drew1 | refine below_set ?_ GE269.out) | exact HB.out)) hb); have n2_ := Aside0.mk (hbox); have n3_ := Aside0.mk ((by rw [hg]; exact (below_size (by repeat (first | (with_reducible first | exact HB.out | apply below_alloc | apply pw_below_drewN | apply below_drew1 | refine below_set ?_ GE269.out) | exact HB.out))) : w.heap.size ≤ gb277)); have n4_ := Aside0.mk ((by rw [hg]; exact (below_size (by repeat (first | (with_reducible first | exact HB.out | apply below_alloc | apply pw_below_drewN | apply below_drew1 | refine below_set ?_ GE269.out) | exact HB.out))) : w.heap.size ≤ gb277)); have n5_ := Aside0.mk ((by rw [hg]; exact Nat.ne_of_lt (blk_lt (g := gb269) (o := .cells #[.bool a2_0, .int .u64 a2_1, .int .u64 a2_2, .bool a2_3, .int .u64 a2_4, .int .u64 a2_5] 28 (0, 0)) (by (with_reducible repeat (first | refine blk_drewN ?_ _ | refine blk_drew ?_ | refine blk_alloc ?_ _)); exact BK269.out)) : gb269 ≠ gb277)); have n6_ := Aside0.mk ((by rw [hg]; exact Nat.ne_of_gt (blk_lt (g := gb269) (o := .cells #[.bool a2_0, .int .u64 a2_1, .int .u64 a2_2, .bool a2_3, .int .u64 a2_4, .int .u64 a2_5] 28 (0, 0)) (by (with_reducible repeat (first | refine blk_drewN ?_ _ | refine blk_drew ?_ | refine blk_alloc ?_ _)); exact BK269.out)) : gb277 ≠ gb269)); clear BK269; clear HB; have BK269 := n0_; have HB := n1_; have BK277 := n2_; have GW277 := n3_; have GE277 := n4_; have NB269_277 := n5_; have NB277_269 := n6_; clear n0_ n1_ n2_ n3_ n4_ n5_ n6_; clear hb hbox hg; have hnb14 := NB277_269.out; have hnc14 := NB269_277.out; have hcz15_0 : w13.cell? ⟨gb277, 0, none⟩ = some (.bool false) := (blk_cell BK277.out 0).trans rfl; have hcz15_1 : w13.cell? ⟨gb277, 1, none⟩ = some (.int .i64 0) := (blk_cell BK277.out 1).trans rfl; have hcz15_2 : w13.cell? ⟨gb277, 2, none⟩ = some (.int .i64 0) := (blk_cell BK277.out 2).trans rfl; have hcz15_3 : w13.cell? ⟨gb277, 3, none⟩ = some (.int .i64 0) := (blk_cell BK277.out 3).trans rfl; have hcz15_4 : w13.cell? ⟨gb277, 4, none⟩ = some (.string (⟨#[]⟩ : ByteArray)) := (blk_cell BK277.out 4).trans rfl; have hfz15_0 := blk_frozen BK277.out 0; have hfz15_1 := blk_frozen BK277.out 1; have hfz15_2 := blk_frozen BK277.out 2; have hfz15_3 := blk_frozen BK277.out 3; have hfz15_4 := blk_frozen BK277.out 4; have hcz16_0 : w13.cell? ⟨gb269, 0, none⟩ = some (.bool a2_0) := (blk_cell BK269.out 0).trans rfl; have hcz16_1 : w13.cell? ⟨gb269, 1, none⟩ = some (.int .u64 a2_1) := (blk_cell BK269.out 1).trans rfl; have hcz16_2 : w13.cell? ⟨gb269, 2, none⟩ = some (.int .u64 a2_2) := (blk_cell BK269.out 2).trans rfl; have hcz16_3 : w13.cell? ⟨gb269, 3, none⟩ = some (.bool a2_3) := (blk_cell BK269.out 3).trans rfl; have hcz16_4 : w13.cell? ⟨gb269, 4, none⟩ = some (.int .u64 a2_4) := (blk_cell BK269.out 4).trans rfl; have hcz16_5 : w13.cell? ⟨gb269, 5, none⟩ = some (.int .u64 a2_5) := (blk_cell BK269.out 5).trans rfl; have hfz16_0 := blk_frozen BK269.out 0; have hfz16_1 := blk_frozen BK269.out 1; have hfz16_2 := blk_frozen BK269.out 2; have hfz16_3 := blk_frozen BK269.out 3; have hfz16_4 := blk_frozen BK269.out 4; have hfz16_5 := blk_frozen BK269.out 5) | ((with_reducible refine gate_callee (f := 14) rfl ?_); refine goesL_ (some 30) rfl rfl Try.func14 (by kernel_rfl) rfl #[.string a0, .bool a1, .agg #[.bool a2_0, .int .u64 a2_1, .int .u64 a2_2], .agg #[.bool a2_3, .int .u64 a2_4, .int .u64 a2_5]] rfl (by (try simp only [List.map_toArray, List.map_cons, List.map_nil]); first | done | rfl | (simp only [List.length_drop, List.length_take]; rfl)) ?_; (with_reducible refine (crosswayref08_Take.calls k a0 a1 a2_0 a2_1 a2_2 a2_3 a2_4 a2_5 t278 t279 t280 t281 t282 t283 _ A6.out).mono ?_); rintro e w17 ⟨rfl, hb⟩; refine ⟨_, rfl, ?_⟩; have n0_ := Aside0.mk (blk_below (g := gb269) (o := .cells #[.bool a2_0, .int .u64 a2_1, .int .u64 a2_2, .bool a2_3, .int .u64 a2_4, .int .u64 a2_5] 28 (0, 0)) (by (with_reducible repeat (first | refine blk_drewN ?_ _ | refine blk_drew ?_ | refine blk_alloc ?_ _)); refine blk_far ?_ NB269_277.out _; (with_reducible repeat (first | refine blk_drewN ?_ _ | refine blk_drew ?_ | refine blk_alloc ?_ _)); refine blk_far ?_ NB269_277.out _; (with_reducible repeat (first | refine blk_drewN ?_ _ | refine blk_drew ?_ | refine blk_alloc ?_ _)); refine blk_far ?_ NB269_277.out _; (with_reducible repeat (first | refine blk_drewN ?_ _ | refine blk_drew ?_ | refine blk_alloc ?_ _)); refine blk_far ?_ NB269_277.out _; (with_reducible repeat (first | refine blk_drewN ?_ _ | refine blk_drew ?_ | refine blk_alloc ?_ _)); refine blk_far ?_ NB269_277.out _; (with_reducible repeat (first | refine blk_drewN ?_ _ | refine blk_drew ?_ | refine blk_alloc ?_ _)); exact BK269.out) hb); have n1_ := Aside0.mk (blk_below (g := gb277) (o := .cells #[.bool t271, .int .i64 t272, .int .i64 t273, .int .i64 t274, .string t275] 23 (0, 0)) (by (with_reducible repeat (first | refine blk_drewN ?_ _ | refine blk_drew ?_ | refine blk_alloc ?_ _)); refine blk_put (cs := #[.bool t271, .int .i64 t272, .int .i64 t273, .int .i64 t274, .string (⟨#[]⟩ : ByteArray)]) ?_ 4 _ rfl; (with_reducible repeat (first | refine blk_drewN ?_ _ | refine blk_drew ?_ | refine blk_alloc ?_ _)); refine blk_put (cs := #[.bool t271, .int .i64 t272, .int .i64 t273, .int .i64 0, .string (⟨#[]⟩ : ByteArray)]) ?_ 3 _ rfl; (with_reducible repeat (first | refine blk_drewN ?_ _ | refine blk_drew ?_ | refine blk_alloc ?_ _)); refine blk_put (cs := #[.bool t271, .int .i64 t272, .int .i64 0, .int .i64 0, .string (⟨#[]⟩ : ByteArray)]) ?_ 2 _ rfl; (with_reducible repeat (first | refine blk_drewN ?_ _ | refine blk_drew ?_ | refine blk_alloc ?_ _)); refine blk_put (cs := #[.bool t271, .int .i64 0, .int .i64 0, .int .i64 0, .string (⟨#[]⟩ : ByteArray)]) ?_ 1 _ rfl; (with_reducible repeat (first | refine blk_drewN ?_ _ | refine blk_drew ?_ | refine blk_alloc ?_ _)); refine blk_put (cs := #[.bool false, .int .i64 0, .int .i64 0, .int .i64 0, .string (⟨#[]⟩ : ByteArray)]) ?_ 0 _ rfl; (with_reducible repeat (first | refine blk_drewN ?_ _ | refine blk_drew ?_ | refine blk_alloc ?_ _)); exact BK277.out) hb); have n2_ := Aside0.mk (below_step (by repeat (first | (with_reducible first | exact HB.out | apply below_alloc | apply pw_below_drewN | apply below_drew1 | refine below_set ?_ GE269.out | refine below_set ?_ GE277.out) | exact HB.out)) hb); clear BK269; clear BK277; clear HB; have BK269 := n0_; have BK277 := n1_; have HB := n2_; clear n0_ n1_ n2_; (try clear hb); (try clear hb2); (try clear hk); (try clear hi)) | ((with_reducible refine gate_dst (N := 10) rfl ?_); refine box_event ?hg (N := 10) ?hd (cs := #[.bool false, .int .i64 0, .int .i64 0, .int .i64 0, .string (⟨#[]⟩ : ByteArray)]) (t := 23) ?hr ?_; (case hd => rfl); (case hg => rfl); (case hr => first | (go_simp; done) | (go_simp; rfl)); intro gb284 hg w18 hbox hb; have n0_ := Aside0.mk (blk_below (g := gb269) (o := .cells #[.bool a2_0, .int .u64 a2_1, .int .u64 a2_2, .bool a2_3, .int .u64 a2_4, .int .u64 a2_5] 28 (0, 0)) (by (with_reducible repeat (first | refine blk_drewN ?_ _ | refine blk_drew ?_ | refine blk_alloc ?_ _)); exact BK269.out) hb); have n1_ := Aside0.mk (blk_below (g := gb277) (o := .cells #[.bool t271, .int .i64 t272, .int .i64 t273, .int .i64 t274, .string t275] 23 (0, 0)) (by (with_reducible repeat (first | refine blk_drewN ?_ _ | refine blk_drew ?_ | refine blk_alloc ?_ _)); exact BK277.out) hb); have n2_ := Aside0.mk (below_step (by repeat (first | (with_reducible first | exact HB.out | apply below_alloc | apply pw_below_drewN | apply below_drew1 | refine below_set ?_ GE269.out | refine below_set ?_ GE277.out) | exact HB.out)) hb); have n3_ := Aside0.mk (hbox); have n4_ := Aside0.mk ((by rw [hg]; exact (below_size (by repeat (first | (with_reducible first | exact HB.out | apply below_alloc | apply pw_below_drewN | apply below_drew1 | refine below_set ?_ GE269.out | refine below_set ?_ GE277.out) | exact HB.out))) : w.heap.size ≤ gb284)); have n5_ := Aside0.mk ((by rw [hg]; exact (below_size (by repeat (first | (with_reducible first | exact HB.out | apply below_alloc | apply pw_below_drewN | apply below_drew1 | refine below_set ?_ GE269.out | refine below_set ?_ GE277.out) | exact HB.out))) : w.heap.size ≤ gb284)); have n6_ := Aside0.mk ((by rw [hg]; exact Nat.ne_of_lt (blk_lt (g := gb269) (o := .cells #[.bool a2_0, .int .u64 a2_1, .int .u64 a2_2, .bool a2_3, .int .u64 a2_4, .int .u64 a2_5] 28 (0, 0)) (by (with_reducible repeat (first | refine blk_drewN ?_ _ | refine blk_drew ?_ | refine blk_alloc ?_ _)); exact BK269.out)) : gb269 ≠ gb284)); have n7_ := Aside0.mk ((by rw [hg]; exact Nat.ne_of_gt (blk_lt (g := gb269) (o := .cells #[.bool a2_0, .int .u64 a2_1, .int .u64 a2_2, .bool a2_3, .int .u64 a2_4, .int .u64 a2_5] 28 (0, 0)) (by (with_reducible repeat (first | refine blk_drewN ?_ _ | refine blk_drew ?_ | refine blk_alloc ?_ _)); exact BK269.out)) : gb284 ≠ gb269)); have n8_ := Aside0.mk ((by rw [hg]; exact Nat.ne_of_lt (blk_lt (g := gb277) (o := .cells #[.bool t271, .int .i64 t272, .int .i64 t273, .int .i64 t274, .string t275] 23 (0, 0)) (by (with_reducible repeat (first | refine blk_drewN ?_ _ | refine blk_drew ?_ | refine blk_alloc ?_ _)); exact BK277.out)) : gb277 ≠ gb284)); have n9_ := Aside0.mk ((by rw [hg]; exact Nat.ne_of_gt (blk_lt (g := gb277) (o := .cells #[.bool t271, .int .i64 t272, .int .i64 t273, .int .i64 t274, .string t275] 23 (0, 0)) (by (with_reducible repeat (first | refine blk_drewN ?_ _ | refine blk_drew ?_ | refine blk_alloc ?_ _)); exact BK277.out)) : gb284 ≠ gb277)); clear BK269; clear BK277; clear HB; have BK269 := n0_; have BK277 := n1_; have HB := n2_; have BK284 := n3_; have GW284 := n4_; have GE284 := n5_; have NB269_284 := n6_; have NB284_269 := n7_; have NB277_284 := n8_; have NB284_277 := n9_; clear n0_ n1_ n2_ n3_ n4_ n5_ n6_ n7_ n8_ n9_; clear hb hbox hg; have hnb19 := NB284_269.out; have hnc19 := NB269_284.out; have hnb20 := NB284_277.out; have hnc20 := NB277_284.out; have hcz21_0 : w18.cell? ⟨gb284, 0, none⟩ = some (.bool false) := (blk_cell BK284.out 0).trans rfl; have hcz21_1 : w18.cell? ⟨gb284, 1, none⟩ = some (.int .i64 0) := (blk_cell BK284.out 1).trans rfl; have hcz21_2 : w18.cell? ⟨gb284, 2, none⟩ = some (.int .i64 0) := (blk_cell BK284.out 2).trans rfl; have hcz21_3 : w18.cell? ⟨gb284, 3, none⟩ = some (.int .i64 0) := (blk_cell BK284.out 3).trans rfl; have hcz21_4 : w18.cell? ⟨gb284, 4, none⟩ = some (.string (⟨#[]⟩ : ByteArray)) := (blk_cell BK284.out 4).trans rfl; have hfz21_0 := blk_frozen BK284.out 0; have hfz21_1 := blk_frozen BK284.out 1; have hfz21_2 := blk_frozen BK284.out 2; have hfz21_3 := blk_frozen BK284.out 3; have hfz21_4 := blk_frozen BK284.out 4; have hcz22_0 : w18.cell? ⟨gb277, 0, none⟩ = some (.bool t271) := (blk_cell BK277.out 0).trans rfl; have hcz22_1 : w18.cell? ⟨gb277, 1, none⟩ = some (.int .i64 t272) := (blk_cell BK277.out 1).trans rfl; have hcz22_2 : w18.cell? ⟨gb277, 2, none⟩ = some (.int .i64 t273) := (blk_cell BK277.out 2).trans rfl; have hcz22_3 : w18.cell? ⟨gb277, 3, none⟩ = some (.int .i64 t274) := (blk_cell BK277.out 3).trans rfl; have hcz22_4 : w18.cell? ⟨gb277, 4, none⟩ = some (.string t275) := (blk_cell BK277.out 4).trans rfl; have hfz22_0 := blk_frozen BK277.out 0; have hfz22_1 := blk_frozen BK277.out 1; have hfz22_2 := blk_frozen BK277.out 2; have hfz22_3 := blk_frozen BK277.out 3; have hfz22_4 := blk_frozen BK277.out 4))
   go_ret
   exact ⟨by first | rfl | (simp [errW_none, errW_some] <;> rfl) | (simp [*, errW_none, errW_some] <;> rfl), by repeat (first | (with_reducible first | exact HB.out | apply below_alloc | apply pw_below_drewN | apply below_drew1 | refine below_set ?_ GE269.out | refine below_set ?_ GE277.out | refine below_set ?_ GE284.out) | exact HB.out)⟩
  ·
   rw [if_neg c8] at H
   have c8b0 : (t271 == t278 && (t272 == t279 && (t273 == t280 && (t274 == t281 && (t275.toList == t282.toList))))) = false := by simpa using c8
   (try (have c8b1 : decide (t271 = t278 && (t272 == t279 && (t273 == t280 && (t274 == t281 && (t275.toList == t282.toList))))) = false := by simpa using c8))
   (try (have c8b2 : (t271 == t278 && (t272 == t279 && (t273 == t280 && (t274 == t281 && (t275.toList == t282.toList))))) = false := by simpa using c8))
   (try (have c8b3 : ¬ (t271 = t278 && (t272 == t279 && (t273 == t280 && (t274 == t281 && (t275.toList == t282.toList))))) := by simpa using c8))
   clear c8
   obtain rfl := Option.some.inj H
   go_enter Try.func4, Try.ntmps4
   go_wp2_with (first | ((with_reducible refine gate_dst (N := 5) rfl ?_); refine box_event ?hg (N := 5) ?hd (cs := #[.bool a2_0, .int .u64 a2_1, .int .u64 a2_2, .bool a2_3, .int .u64 a2_4, .int .u64 a2_5]) (t := 28) ?hr ?_; (case hd => rfl); (case hg => rfl); (case hr => first | (go_simp; done) | (go_simp; rfl)); intro gb269 hg w23 hbox hb; have n0_ := Aside0.mk (below_step (by repeat (first | (with_reducible first | exact HB.out | apply below_alloc | apply pw_below_drewN | apply below_drew1) | exact HB.out)) hb); have n1_ := Aside0.mk (hbox); have n2_ := Aside0.mk ((by rw [hg]; exact (below_size (by repeat (first | (with_reducible first | exact HB.out | apply below_alloc | apply pw_below_drewN | apply below_drew1) | exact HB.out))) : w.heap.size ≤ gb269)); have n3_ := Aside0.mk ((by rw [hg]; exact (below_size (by repeat (first | (with_reducible first | exact HB.out | apply below_alloc | apply pw_below_drewN | apply below_drew1) | exact HB.out))) : w.heap.size ≤ gb269)); clear HB; have HB := n0_; have BK269 := n1_; have GW269 := n2_; have GE269 := n3_; clear n0_ n1_ n2_ n3_; clear hb hbox hg) | ((with_reducible refine gate_callee (f := 10) rfl ?_); refine goesL_ (some 12) rfl rfl Try.func10 (by kernel_rfl) rfl #[] rfl (by (try simp only [List.map_toArray, List.map_cons, List.map_nil]); first | done | rfl | (simp only [List.length_drop, List.length_take]; rfl)) ?_; (with_reducible refine (crosswaylaw08_awake.calls  true _ A4.out).mono ?_); rintro e w24 ⟨rfl, hb⟩; refine ⟨_, rfl, ?_⟩; have n0_ := Aside0.mk (blk_below (g := gb269) (o := .cells #[.bool a2_0, .int .u64 a2_1, .int .u64 a2_2, .bool a2_3, .int .u64 a2_4, .int .u64 a2_5] 28 (0, 0)) (by (with_reducible repeat (first | refine blk_drewN ?_ _ | refine blk_drew ?_ | refine blk_alloc ?_ _)); exact BK269.out) hb); have n1_ := Aside0.mk (below_step (by repeat (first | (with_reducible first | exact HB.out | apply below_alloc | apply pw_below_drewN | apply below_drew1 | refine below_set ?_ GE269.out) | exact HB.out)) hb); clear BK269; clear HB; have BK269 := n0_; have HB := n1_; clear n0_ n1_; (try clear hb); (try clear hb2); (try clear hk); (try clear hi); have hcz25_0 : w24.cell? ⟨gb269, 0, none⟩ = some (.bool a2_0) := (blk_cell BK269.out 0).trans rfl; have hcz25_1 : w24.cell? ⟨gb269, 1, none⟩ = some (.int .u64 a2_1) := (blk_cell BK269.out 1).trans rfl; have hcz25_2 : w24.cell? ⟨gb269, 2, none⟩ = some (.int .u64 a2_2) := (blk_cell BK269.out 2).trans rfl; have hcz25_3 : w24.cell? ⟨gb269, 3, none⟩ = some (.bool a2_3) := (blk_cell BK269.out 3).trans rfl; have hcz25_4 : w24.cell? ⟨gb269, 4, none⟩ = some (.int .u64 a2_4) := (blk_cell BK269.out 4).trans rfl; have hcz25_5 : w24.cell? ⟨gb269, 5, none⟩ = some (.int .u64 a2_5) := (blk_cell BK269.out 5).trans rfl; have hfz25_0 := blk_frozen BK269.out 0; have hfz25_1 := blk_frozen BK269.out 1; have hfz25_2 := blk_frozen BK269.out 2; have hfz25_3 := blk_frozen BK269.out 3; have hfz25_4 := blk_frozen BK269.out 4; have hfz25_5 := blk_frozen BK269.out 5) | ((with_reducible refine gate_callee (f := 13) rfl ?_); refine goesL_ (some 20) rfl rfl Try.func13 (by kernel_rfl) rfl #[.string a0, .bool a1, .agg #[.bool a2_0, .int .u64 a2_1, .int .u64 a2_2], .agg #[.bool a2_3, .int .u64 a2_4, .int .u64 a2_5]] rfl (by (try simp only [List.map_toArray, List.map_cons, List.map_nil]); first | done | rfl | (simp only [List.length_drop, List.length_take]; rfl)) ?_; (with_reducible refine (icmp_Take.calls k a0 a1 a2_0 a2_1 a2_2 a2_3 a2_4 a2_5 t271 t272 t273 t274 t275 t276 _ A5.out).mono ?_); rintro e w26 ⟨rfl, hb⟩; refine ⟨_, rfl, ?_⟩; have n0_ := Aside0.mk (blk_below (g := gb269) (o := .cells #[.bool a2_0, .int .u64 a2_1, .int .u64 a2_2, .bool a2_3, .int .u64 a2_4, .int .u64 a2_5] 28 (0, 0)) (by (with_reducible repeat (first | refine blk_drewN ?_ _ | refine blk_drew ?_ | refine blk_alloc ?_ _)); exact BK269.out) hb); have n1_ := Aside0.mk (below_step (by repeat (first | (with_reducible first | exact HB.out | apply below_alloc | apply pw_below_drewN | apply below_drew1 | refine below_set ?_ GE269.out) | exact HB.out)) hb); clear BK269; clear HB; have BK269 := n0_; have HB := n1_; clear n0_ n1_; (try clear hb); (try clear hb2); (try clear hk); (try clear hi)) | ((with_reducible refine gate_dst (N := 8) rfl ?_); refine box_event ?hg (N := 8) ?hd (cs := #[.bool false, .int .i64 0, .int .i64 0, .int .i64 0, .string (⟨#[]⟩ : ByteArray)]) (t := 23) ?hr ?_; (case hd => rfl); (case hg => rfl); (case hr => first | (go_simp; done) | (go_simp; rfl)); intro gb277 hg w27 hbox hb; have n0_ := Aside0.mk (blk_below (g := gb269) (o := .cells #[.bool a2_0, .int .u64 a2_1, .int .u64 a2_2, .bool a2_3, .int .u64 a2_4, .int .u64 a2_5] 28 (0, 0)) (by (with_reducible repeat (first | refine blk_drewN ?_ _ | refine blk_drew ?_ | refine blk_alloc ?_ _)); exact BK269.out) hb); have n1_ := Aside0.mk (below_step (by repeat (first | (with_reducible first | exact HB.out | apply below_alloc | apply pw_below_drewN | apply below_drew1 | refine below_set ?_ GE269.out) | exact HB.out)) hb); have n2_ := Aside0.mk (hbox); have n3_ := Aside0.mk ((by rw [hg]; exact (below_size (by repeat (first | (with_reducible first | exact HB.out | apply below_alloc | apply pw_below_drewN | apply below_drew1 | refine below_set ?_ GE269.out) | exact HB.out))) : w.heap.size ≤ gb277)); have n4_ := Aside0.mk ((by rw [hg]; exact (below_size (by repeat (first | (with_reducible first | exact HB.out | apply below_alloc | apply pw_below_drewN | apply below_drew1 | refine below_set ?_ GE269.out) | exact HB.out))) : w.heap.size ≤ gb277)); have n5_ := Aside0.mk ((by rw [hg]; exact Nat.ne_of_lt (blk_lt (g := gb269) (o := .cells #[.bool a2_0, .int .u64 a2_1, .int .u64 a2_2, .bool a2_3, .int .u64 a2_4, .int .u64 a2_5] 28 (0, 0)) (by (with_reducible repeat (first | refine blk_drewN ?_ _ | refine blk_drew ?_ | refine blk_alloc ?_ _)); exact BK269.out)) : gb269 ≠ gb277)); have n6_ := Aside0.mk ((by rw [hg]; exact Nat.ne_of_gt (blk_lt (g := gb269) (o := .cells #[.bool a2_0, .int .u64 a2_1, .int .u64 a2_2, .bool a2_3, .int .u64 a2_4, .int .u64 a2_5] 28 (0, 0)) (by (with_reducible repeat (first | refine blk_drewN ?_ _ | refine blk_drew ?_ | refine blk_alloc ?_ _)); exact BK269.out)) : gb277 ≠ gb269)); clear BK269; clear HB; have BK269 := n0_; have HB := n1_; have BK277 := n2_; have GW277 := n3_; have GE277 := n4_; have NB269_277 := n5_; have NB277_269 := n6_; clear n0_ n1_ n2_ n3_ n4_ n5_ n6_; clear hb hbox hg; have hnb28 := NB277_269.out; have hnc28 := NB269_277.out; have hcz29_0 : w27.cell? ⟨gb277, 0, none⟩ = some (.bool false) := (blk_cell BK277.out 0).trans rfl; have hcz29_1 : w27.cell? ⟨gb277, 1, none⟩ = some (.int .i64 0) := (blk_cell BK277.out 1).trans rfl; have hcz29_2 : w27.cell? ⟨gb277, 2, none⟩ = some (.int .i64 0) := (blk_cell BK277.out 2).trans rfl; have hcz29_3 : w27.cell? ⟨gb277, 3, none⟩ = some (.int .i64 0) := (blk_cell BK277.out 3).trans rfl; have hcz29_4 : w27.cell? ⟨gb277, 4, none⟩ = some (.string (⟨#[]⟩ : ByteArray)) := (blk_cell BK277.out 4).trans rfl; have hfz29_0 := blk_frozen BK277.out 0; have hfz29_1 := blk_frozen BK277.out 1; have hfz29_2 := blk_frozen BK277.out 2; have hfz29_3 := blk_frozen BK277.out 3; have hfz29_4 := blk_frozen BK277.out 4; have hcz30_0 : w27.cell? ⟨gb269, 0, none⟩ = some (.bool a2_0) := (blk_cell BK269.out 0).trans rfl; have hcz30_1 : w27.cell? ⟨gb269, 1, none⟩ = some (.int .u64 a2_1) := (blk_cell BK269.out 1).trans rfl; have hcz30_2 : w27.cell? ⟨gb269, 2, none⟩ = some (.int .u64 a2_2) := (blk_cell BK269.out 2).trans rfl; have hcz30_3 : w27.cell? ⟨gb269, 3, none⟩ = some (.bool a2_3) := (blk_cell BK269.out 3).trans rfl; have hcz30_4 : w27.cell? ⟨gb269, 4, none⟩ = some (.int .u64 a2_4) := (blk_cell BK269.out 4).trans rfl; have hcz30_5 : w27.cell? ⟨gb269, 5, none⟩ = some (.int .u64 a2_5) := (blk_cell BK269.out 5).trans rfl; have hfz30_0 := blk_frozen BK269.out 0; have hfz30_1 := blk_frozen BK269.out 1; have hfz30_2 := blk_frozen BK269.out 2; have hfz30_3 := blk_frozen BK269.out 3; have hfz30_4 := blk_frozen BK269.out 4; have hfz30_5 := blk_frozen BK269.out 5) | ((with_reducible refine gate_callee (f := 14) rfl ?_); refine goesL_ (some 30) rfl rfl Try.func14 (by kernel_rfl) rfl #[.string a0, .bool a1, .agg #[.bool a2_0, .int .u64 a2_1, .int .u64 a2_2], .agg #[.bool a2_3, .int .u64 a2_4, .int .u64 a2_5]] rfl (by (try simp only [List.map_toArray, List.map_cons, List.map_nil]); first | done | rfl | (simp only [List.length_drop, List.length_take]; rfl)) ?_; (with_reducible refine (crosswayref08_Take.calls k a0 a1 a2_0 a2_1 a2_2 a2_3 a2_4 a2_5 t278 t279 t280 t281 t282 t283 _ A6.out).mono ?_); rintro e w31 ⟨rfl, hb⟩; refine ⟨_, rfl, ?_⟩; have n0_ := Aside0.mk (blk_below (g := gb269) (o := .cells #[.bool a2_0, .int .u64 a2_1, .int .u64 a2_2, .bool a2_3, .int .u64 a2_4, .int .u64 a2_5] 28 (0, 0)) (by (with_reducible repeat (first | refine blk_drewN ?_ _ | refine blk_drew ?_ | refine blk_alloc ?_ _)); refine blk_far ?_ NB269_277.out _; (with_reducible repeat (first | refine blk_drewN ?_ _ | refine blk_drew ?_ | refine blk_alloc ?_ _)); refine blk_far ?_ NB269_277.out _; (with_reducible repeat (first | refine blk_drewN ?_ _ | refine blk_drew ?_ | refine blk_alloc ?_ _)); refine blk_far ?_ NB269_277.out _; (with_reducible repeat (first | refine blk_drewN ?_ _ | refine blk_drew ?_ | refine blk_alloc ?_ _)); refine blk_far ?_ NB269_277.out _; (with_reducible repeat (first | refine blk_drewN ?_ _ | refine blk_drew ?_ | refine blk_alloc ?_ _)); refine blk_far ?_ NB269_277.out _; (with_reducible repeat (first | refine blk_drewN ?_ _ | refine blk_drew ?_ | refine blk_alloc ?_ _)); exact BK269.out) hb); have n1_ := Aside0.mk (blk_below (g := gb277) (o := .cells #[.bool t271, .int .i64 t272, .int .i64 t273, .int .i64 t274, .string t275] 23 (0, 0)) (by (with_reducible repeat (first | refine blk_drewN ?_ _ | refine blk_drew ?_ | refine blk_alloc ?_ _)); refine blk_put (cs := #[.bool t271, .int .i64 t272, .int .i64 t273, .int .i64 t274, .string (⟨#[]⟩ : ByteArray)]) ?_ 4 _ rfl; (with_reducible repeat (first | refine blk_drewN ?_ _ | refine blk_drew ?_ | refine blk_alloc ?_ _)); refine blk_put (cs := #[.bool t271, .int .i64 t272, .int .i64 t273, .int .i64 0, .string (⟨#[]⟩ : ByteArray)]) ?_ 3 _ rfl; (with_reducible repeat (first | refine blk_drewN ?_ _ | refine blk_drew ?_ | refine blk_alloc ?_ _)); refine blk_put (cs := #[.bool t271, .int .i64 t272, .int .i64 0, .int .i64 0, .string (⟨#[]⟩ : ByteArray)]) ?_ 2 _ rfl; (with_reducible repeat (first | refine blk_drewN ?_ _ | refine blk_drew ?_ | refine blk_alloc ?_ _)); refine blk_put (cs := #[.bool t271, .int .i64 0, .int .i64 0, .int .i64 0, .string (⟨#[]⟩ : ByteArray)]) ?_ 1 _ rfl; (with_reducible repeat (first | refine blk_drewN ?_ _ | refine blk_drew ?_ | refine blk_alloc ?_ _)); refine blk_put (cs := #[.bool false, .int .i64 0, .int .i64 0, .int .i64 0, .string (⟨#[]⟩ : ByteArray)]) ?_ 0 _ rfl; (with_reducible repeat (first | refine blk_drewN ?_ _ | refine blk_drew ?_ | refine blk_alloc ?_ _)); exact BK277.out) hb); have n2_ := Aside0.mk (below_step (by repeat (first | (with_reducible first | exact HB.out | apply below_alloc | apply pw_below_drewN | apply below_drew1 | refine below_set ?_ GE269.out | refine below_set ?_ GE277.out) | exact HB.out)) hb); clear BK269; clear BK277; clear HB; have BK269 := n0_; have BK277 := n1_; have HB := n2_; clear n0_ n1_ n2_; (try clear hb); (try clear hb2); (try clear hk); (try clear hi)) | ((with_reducible refine gate_dst (N := 10) rfl ?_); refine box_event ?hg (N := 10) ?hd (cs := #[.bool false, .int .i64 0, .int .i64 0, .int .i64 0, .string (⟨#[]⟩ : ByteArray)]) (t := 23) ?hr ?_; (case hd => rfl); (case hg => rfl); (case hr => first | (go_simp; done) | (go_simp; rfl)); intro gb284 hg w32 hbox hb; have n0_ := Aside0.mk (blk_below (g := gb269) (o := .cells #[.bool a2_0, .int .u64 a2_1, .int .u64 a2_2, .bool a2_3, .int .u64 a2_4, .int .u64 a2_5] 28 (0, 0)) (by (with_reducible repeat (first | refine blk_drewN ?_ _ | refine blk_drew ?_ | refine blk_alloc ?_ _)); exact BK269.out) hb); have n1_ := Aside0.mk (blk_below (g := gb277) (o := .cells #[.bool t271, .int .i64 t272, .int .i64 t273, .int .i64 t274, .string t275] 23 (0, 0)) (by (with_reducible repeat (first | refine blk_drewN ?_ _ | refine blk_drew ?_ | refine blk_alloc ?_ _)); exact BK277.out) hb); have n2_ := Aside0.mk (below_step (by repeat (first | (with_reducible first | exact HB.out | apply below_alloc | apply pw_below_drewN | apply below_drew1 | refine below_set ?_ GE269.out | refine below_set ?_ GE277.out) | exact HB.out)) hb); have n3_ := Aside0.mk (hbox); have n4_ := Aside0.mk ((by rw [hg]; exact (below_size (by repeat (first | (with_reducible first | exact HB.out | apply below_alloc | apply pw_below_drewN | apply below_drew1 | refine below_set ?_ GE269.out | refine below_set ?_ GE277.out) | exact HB.out))) : w.heap.size ≤ gb284)); have n5_ := Aside0.mk ((by rw [hg]; exact (below_size (by repeat (first | (with_reducible first | exact HB.out | apply below_alloc | apply pw_below_drewN | apply below_drew1 | refine below_set ?_ GE269.out | refine below_set ?_ GE277.out) | exact HB.out))) : w.heap.size ≤ gb284)); have n6_ := Aside0.mk ((by rw [hg]; exact Nat.ne_of_lt (blk_lt (g := gb269) (o := .cells #[.bool a2_0, .int .u64 a2_1, .int .u64 a2_2, .bool a2_3, .int .u64 a2_4, .int .u64 a2_5] 28 (0, 0)) (by (with_reducible repeat (first | refine blk_drewN ?_ _ | refine blk_drew ?_ | refine blk_alloc ?_ _)); exact BK269.out)) : gb269 ≠ gb284)); have n7_ := Aside0.mk ((by rw [hg]; exact Nat.ne_of_gt (blk_lt (g := gb269) (o := .cells #[.bool a2_0, .int .u64 a2_1, .int .u64 a2_2, .bool a2_3, .int .u64 a2_4, .int .u64 a2_5] 28 (0, 0)) (by (with_reducible repeat (first | refine blk_drewN ?_ _ | refine blk_drew ?_ | refine blk_alloc ?_ _)); exact BK269.out)) : gb284 ≠ gb269)); have n8_ := Aside0.mk ((by rw [hg]; exact Nat.ne_of_lt (blk_lt (g := gb277) (o := .cells #[.bool t271, .int .i64 t272, .int .i64 t273, .int .i64 t274, .string t275] 23 (0, 0)) (by (with_reducible repeat (first | refine blk_drewN ?_ _ | refine blk_drew ?_ | refine blk_alloc ?_ _)); exact BK277.out)) : gb277 ≠ gb284)); have n9_ := Aside0.mk ((by rw [hg]; exact Nat.ne_of_gt (blk_lt (g := gb277) (o := .cells #[.bool t271, .int .i64 t272, .int .i64 t273, .int .i64 t274, .string t275] 23 (0, 0)) (by (with_reducible repeat (first | refine blk_drewN ?_ _ | refine blk_drew ?_ | refine blk_alloc ?_ _)); exact BK277.out)) : gb284 ≠ gb277)); clear BK269; clear BK277; clear HB; have BK269 := n0_; have BK277 := n1_; have HB := n2_; have BK284 := n3_; have GW284 := n4_; have GE284 := n5_; have NB269_284 := n6_; have NB284_269 := n7_; have NB277_284 := n8_; have NB284_277 := n9_; clear n0_ n1_ n2_ n3_ n4_ n5_ n6_ n7_ n8_ n9_; clear hb hbox hg; have hnb33 := NB284_269.out; have hnc33 := NB269_284.out; have hnb34 := NB284_277.out; have hnc34 := NB277_284.out; have hcz35_0 : w32.cell? ⟨gb284, 0, none⟩ = some (.bool false) := (blk_cell BK284.out 0).trans rfl; have hcz35_1 : w32.cell? ⟨gb284, 1, none⟩ = some (.int .i64 0) := (blk_cell BK284.out 1).trans rfl; have hcz35_2 : w32.cell? ⟨gb284, 2, none⟩ = some (.int .i64 0) := (blk_cell BK284.out 2).trans rfl; have hcz35_3 : w32.cell? ⟨gb284, 3, none⟩ = some (.int .i64 0) := (blk_cell BK284.out 3).trans rfl; have hcz35_4 : w32.cell? ⟨gb284, 4, none⟩ = some (.string (⟨#[]⟩ : ByteArray)) := (blk_cell BK284.out 4).trans rfl; have hfz35_0 := blk_frozen BK284.out 0; have hfz35_1 := blk_frozen BK284.out 1; have hfz35_2 := blk_frozen BK284.out 2; have hfz35_3 := blk_frozen BK284.out 3; have hfz35_4 := blk_frozen BK284.out 4; have hcz36_0 : w32.cell? ⟨gb277, 0, none⟩ = some (.bool t271) := (blk_cell BK277.out 0).trans rfl; have hcz36_1 : w32.cell? ⟨gb277, 1, none⟩ = some (.int .i64 t272) := (blk_cell BK277.out 1).trans rfl; have hcz36_2 : w32.cell? ⟨gb277, 2, none⟩ = some (.int .i64 t273) := (blk_cell BK277.out 2).trans rfl; have hcz36_3 : w32.cell? ⟨gb277, 3, none⟩ = some (.int .i64 t274) := (blk_cell BK277.out 3).trans rfl; have hcz36_4 : w32.cell? ⟨gb277, 4, none⟩ = some (.string t275) := (blk_cell BK277.out 4).trans rfl; have hfz36_0 := blk_frozen BK277.out 0; have hfz36_1 := blk_frozen BK277.out 1; have hfz36_2 := blk_frozen BK277.out 2; have hfz36_3 := blk_frozen BK277.out 3; have hfz36_4 := blk_frozen BK277.out 4))
   go_ret
   exact ⟨by first | rfl | (simp [errW_none, errW_some] <;> rfl) | (simp [*, errW_none, errW_some] <;> rfl), by repeat (first | (with_reducible first | exact HB.out | apply below_alloc | apply pw_below_drewN | apply below_drew1 | refine below_set ?_ GE269.out | refine below_set ?_ GE277.out | refine below_set ?_ GE284.out) | exact HB.out)⟩
 ·
  replace c7 := Bool.eq_false_iff.mpr c7
  subst c7
  have H1 : (some false) = some r := by rw [if_neg (show ¬ (false = true) by decide)] at H; exact H
  clear H
  have H := H1
  clear H1
  obtain rfl := Option.some.inj H
  go_enter Try.func4, Try.ntmps4
  go_wp2_with (first | ((with_reducible refine gate_dst (N := 5) rfl ?_); refine box_event ?hg (N := 5) ?hd (cs := #[.bool a2_0, .int .u64 a2_1, .int .u64 a2_2, .bool a2_3, .int .u64 a2_4, .int .u64 a2_5]) (t := 28) ?hr ?_; (case hd => rfl); (case hg => rfl); (case hr => first | (go_simp; done) | (go_simp; rfl)); intro gb269 hg w37 hbox hb; have n0_ := Aside0.mk (below_step (by repeat (first | (with_reducible first | exact HB.out | apply below_alloc | apply pw_below_drewN | apply below_drew1) | exact HB.out)) hb); have n1_ := Aside0.mk (hbox); have n2_ := Aside0.mk ((by rw [hg]; exact (below_size (by repeat (first | (with_reducible first | exact HB.out | apply below_alloc | apply pw_below_drewN | apply below_drew1) | exact HB.out))) : w.heap.size ≤ gb269)); have n3_ := Aside0.mk ((by rw [hg]; exact (below_size (by repeat (first | (with_reducible first | exact HB.out | apply below_alloc | apply pw_below_drewN | apply below_drew1) | exact HB.out))) : w.heap.size ≤ gb269)); clear HB; have HB := n0_; have BK269 := n1_; have GW269 := n2_; have GE269 := n3_; clear n0_ n1_ n2_ n3_; clear hb hbox hg) | ((with_reducible refine gate_callee (f := 10) rfl ?_); refine goesL_ (some 12) rfl rfl Try.func10 (by kernel_rfl) rfl #[] rfl (by (try simp only [List.map_toArray, List.map_cons, List.map_nil]); first | done | rfl | (simp only [List.length_drop, List.length_take]; rfl)) ?_; (with_reducible refine (crosswaylaw08_awake.calls  false _ A4.out).mono ?_); rintro e w38 ⟨rfl, hb⟩; refine ⟨_, rfl, ?_⟩; have n0_ := Aside0.mk (blk_below (g := gb269) (o := .cells #[.bool a2_0, .int .u64 a2_1, .int .u64 a2_2, .bool a2_3, .int .u64 a2_4, .int .u64 a2_5] 28 (0, 0)) (by (with_reducible repeat (first | refine blk_drewN ?_ _ | refine blk_drew ?_ | refine blk_alloc ?_ _)); exact BK269.out) hb); have n1_ := Aside0.mk (below_step (by repeat (first | (with_reducible first | exact HB.out | apply below_alloc | apply pw_below_drewN | apply below_drew1 | refine below_set ?_ GE269.out) | exact HB.out)) hb); clear BK269; clear HB; have BK269 := n0_; have HB := n1_; clear n0_ n1_; (try clear hb); (try clear hb2); (try clear hk); (try clear hi); have hcz39_0 : w38.cell? ⟨gb269, 0, none⟩ = some (.bool a2_0) := (blk_cell BK269.out 0).trans rfl; have hcz39_1 : w38.cell? ⟨gb269, 1, none⟩ = some (.int .u64 a2_1) := (blk_cell BK269.out 1).trans rfl; have hcz39_2 : w38.cell? ⟨gb269, 2, none⟩ = some (.int .u64 a2_2) := (blk_cell BK269.out 2).trans rfl; have hcz39_3 : w38.cell? ⟨gb269, 3, none⟩ = some (.bool a2_3) := (blk_cell BK269.out 3).trans rfl; have hcz39_4 : w38.cell? ⟨gb269, 4, none⟩ = some (.int .u64 a2_4) := (blk_cell BK269.out 4).trans rfl; have hcz39_5 : w38.cell? ⟨gb269, 5, none⟩ = some (.int .u64 a2_5) := (blk_cell BK269.out 5).trans rfl; have hfz39_0 := blk_frozen BK269.out 0; have hfz39_1 := blk_frozen BK269.out 1; have hfz39_2 := blk_frozen BK269.out 2; have hfz39_3 := blk_frozen BK269.out 3; have hfz39_4 := blk_frozen BK269.out 4; have hfz39_5 := blk_frozen BK269.out 5) | ((with_reducible refine gate_callee (f := 13) rfl ?_); refine goesL_ (some 20) rfl rfl Try.func13 (by kernel_rfl) rfl #[.string a0, .bool a1, .agg #[.bool a2_0, .int .u64 a2_1, .int .u64 a2_2], .agg #[.bool a2_3, .int .u64 a2_4, .int .u64 a2_5]] rfl (by (try simp only [List.map_toArray, List.map_cons, List.map_nil]); first | done | rfl | (simp only [List.length_drop, List.length_take]; rfl)) ?_; (with_reducible refine (icmp_Take.calls k a0 a1 a2_0 a2_1 a2_2 a2_3 a2_4 a2_5 t271 t272 t273 t274 t275 t276 _ A5.out).mono ?_); rintro e w40 ⟨rfl, hb⟩; refine ⟨_, rfl, ?_⟩; have n0_ := Aside0.mk (blk_below (g := gb269) (o := .cells #[.bool a2_0, .int .u64 a2_1, .int .u64 a2_2, .bool a2_3, .int .u64 a2_4, .int .u64 a2_5] 28 (0, 0)) (by (with_reducible repeat (first | refine blk_drewN ?_ _ | refine blk_drew ?_ | refine blk_alloc ?_ _)); exact BK269.out) hb); have n1_ := Aside0.mk (below_step (by repeat (first | (with_reducible first | exact HB.out | apply below_alloc | apply pw_below_drewN | apply below_drew1 | refine below_set ?_ GE269.out) | exact HB.out)) hb); clear BK269; clear HB; have BK269 := n0_; have HB := n1_; clear n0_ n1_; (try clear hb); (try clear hb2); (try clear hk); (try clear hi)) | ((with_reducible refine gate_dst (N := 8) rfl ?_); refine box_event ?hg (N := 8) ?hd (cs := #[.bool false, .int .i64 0, .int .i64 0, .int .i64 0, .string (⟨#[]⟩ : ByteArray)]) (t := 23) ?hr ?_; (case hd => rfl); (case hg => rfl); (case hr => first | (go_simp; done) | (go_simp; rfl)); intro gb277 hg w41 hbox hb; have n0_ := Aside0.mk (blk_below (g := gb269) (o := .cells #[.bool a2_0, .int .u64 a2_1, .int .u64 a2_2, .bool a2_3, .int .u64 a2_4, .int .u64 a2_5] 28 (0, 0)) (by (with_reducible repeat (first | refine blk_drewN ?_ _ | refine blk_drew ?_ | refine blk_alloc ?_ _)); exact BK269.out) hb); have n1_ := Aside0.mk (below_step (by repeat (first | (with_reducible first | exact HB.out | apply below_alloc | apply pw_below_drewN | apply below_drew1 | refine below_set ?_ GE269.out) | exact HB.out)) hb); have n2_ := Aside0.mk (hbox); have n3_ := Aside0.mk ((by rw [hg]; exact (below_size (by repeat (first | (with_reducible first | exact HB.out | apply below_alloc | apply pw_below_drewN | apply below_drew1 | refine below_set ?_ GE269.out) | exact HB.out))) : w.heap.size ≤ gb277)); have n4_ := Aside0.mk ((by rw [hg]; exact (below_size (by repeat (first | (with_reducible first | exact HB.out | apply below_alloc | apply pw_below_drewN | apply below_drew1 | refine below_set ?_ GE269.out) | exact HB.out))) : w.heap.size ≤ gb277)); have n5_ := Aside0.mk ((by rw [hg]; exact Nat.ne_of_lt (blk_lt (g := gb269) (o := .cells #[.bool a2_0, .int .u64 a2_1, .int .u64 a2_2, .bool a2_3, .int .u64 a2_4, .int .u64 a2_5] 28 (0, 0)) (by (with_reducible repeat (first | refine blk_drewN ?_ _ | refine blk_drew ?_ | refine blk_alloc ?_ _)); exact BK269.out)) : gb269 ≠ gb277)); have n6_ := Aside0.mk ((by rw [hg]; exact Nat.ne_of_gt (blk_lt (g := gb269) (o := .cells #[.bool a2_0, .int .u64 a2_1, .int .u64 a2_2, .bool a2_3, .int .u64 a2_4, .int .u64 a2_5] 28 (0, 0)) (by (with_reducible repeat (first | refine blk_drewN ?_ _ | refine blk_drew ?_ | refine blk_alloc ?_ _)); exact BK269.out)) : gb277 ≠ gb269)); clear BK269; clear HB; have BK269 := n0_; have HB := n1_; have BK277 := n2_; have GW277 := n3_; have GE277 := n4_; have NB269_277 := n5_; have NB277_269 := n6_; clear n0_ n1_ n2_ n3_ n4_ n5_ n6_; clear hb hbox hg; have hnb42 := NB277_269.out; have hnc42 := NB269_277.out; have hcz43_0 : w41.cell? ⟨gb277, 0, none⟩ = some (.bool false) := (blk_cell BK277.out 0).trans rfl; have hcz43_1 : w41.cell? ⟨gb277, 1, none⟩ = some (.int .i64 0) := (blk_cell BK277.out 1).trans rfl; have hcz43_2 : w41.cell? ⟨gb277, 2, none⟩ = some (.int .i64 0) := (blk_cell BK277.out 2).trans rfl; have hcz43_3 : w41.cell? ⟨gb277, 3, none⟩ = some (.int .i64 0) := (blk_cell BK277.out 3).trans rfl; have hcz43_4 : w41.cell? ⟨gb277, 4, none⟩ = some (.string (⟨#[]⟩ : ByteArray)) := (blk_cell BK277.out 4).trans rfl; have hfz43_0 := blk_frozen BK277.out 0; have hfz43_1 := blk_frozen BK277.out 1; have hfz43_2 := blk_frozen BK277.out 2; have hfz43_3 := blk_frozen BK277.out 3; have hfz43_4 := blk_frozen BK277.out 4; have hcz44_0 : w41.cell? ⟨gb269, 0, none⟩ = some (.bool a2_0) := (blk_cell BK269.out 0).trans rfl; have hcz44_1 : w41.cell? ⟨gb269, 1, none⟩ = some (.int .u64 a2_1) := (blk_cell BK269.out 1).trans rfl; have hcz44_2 : w41.cell? ⟨gb269, 2, none⟩ = some (.int .u64 a2_2) := (blk_cell BK269.out 2).trans rfl; have hcz44_3 : w41.cell? ⟨gb269, 3, none⟩ = some (.bool a2_3) := (blk_cell BK269.out 3).trans rfl; have hcz44_4 : w41.cell? ⟨gb269, 4, none⟩ = some (.int .u64 a2_4) := (blk_cell BK269.out 4).trans rfl; have hcz44_5 : w41.cell? ⟨gb269, 5, none⟩ = some (.int .u64 a2_5) := (blk_cell BK269.out 5).trans rfl; have hfz44_0 := blk_frozen BK269.out 0; have hfz44_1 := blk_frozen BK269.out 1; have hfz44_2 := blk_frozen BK269.out 2; have hfz44_3 := blk_frozen BK269.out 3; have hfz44_4 := blk_frozen BK269.out 4; have hfz44_5 := blk_frozen BK269.out 5) | ((with_reducible refine gate_callee (f := 14) rfl ?_); refine goesL_ (some 30) rfl rfl Try.func14 (by kernel_rfl) rfl #[.string a0, .bool a1, .agg #[.bool a2_0, .int .u64 a2_1, .int .u64 a2_2], .agg #[.bool a2_3, .int .u64 a2_4, .int .u64 a2_5]] rfl (by (try simp only [List.map_toArray, List.map_cons, List.map_nil]); first | done | rfl | (simp only [List.length_drop, List.length_take]; rfl)) ?_; (with_reducible refine (crosswayref08_Take.calls k a0 a1 a2_0 a2_1 a2_2 a2_3 a2_4 a2_5 t278 t279 t280 t281 t282 t283 _ A6.out).mono ?_); rintro e w45 ⟨rfl, hb⟩; refine ⟨_, rfl, ?_⟩; have n0_ := Aside0.mk (blk_below (g := gb269) (o := .cells #[.bool a2_0, .int .u64 a2_1, .int .u64 a2_2, .bool a2_3, .int .u64 a2_4, .int .u64 a2_5] 28 (0, 0)) (by (with_reducible repeat (first | refine blk_drewN ?_ _ | refine blk_drew ?_ | refine blk_alloc ?_ _)); refine blk_far ?_ NB269_277.out _; (with_reducible repeat (first | refine blk_drewN ?_ _ | refine blk_drew ?_ | refine blk_alloc ?_ _)); refine blk_far ?_ NB269_277.out _; (with_reducible repeat (first | refine blk_drewN ?_ _ | refine blk_drew ?_ | refine blk_alloc ?_ _)); refine blk_far ?_ NB269_277.out _; (with_reducible repeat (first | refine blk_drewN ?_ _ | refine blk_drew ?_ | refine blk_alloc ?_ _)); refine blk_far ?_ NB269_277.out _; (with_reducible repeat (first | refine blk_drewN ?_ _ | refine blk_drew ?_ | refine blk_alloc ?_ _)); refine blk_far ?_ NB269_277.out _; (with_reducible repeat (first | refine blk_drewN ?_ _ | refine blk_drew ?_ | refine blk_alloc ?_ _)); exact BK269.out) hb); have n1_ := Aside0.mk (blk_below (g := gb277) (o := .cells #[.bool t271, .int .i64 t272, .int .i64 t273, .int .i64 t274, .string t275] 23 (0, 0)) (by (with_reducible repeat (first | refine blk_drewN ?_ _ | refine blk_drew ?_ | refine blk_alloc ?_ _)); refine blk_put (cs := #[.bool t271, .int .i64 t272, .int .i64 t273, .int .i64 t274, .string (⟨#[]⟩ : ByteArray)]) ?_ 4 _ rfl; (with_reducible repeat (first | refine blk_drewN ?_ _ | refine blk_drew ?_ | refine blk_alloc ?_ _)); refine blk_put (cs := #[.bool t271, .int .i64 t272, .int .i64 t273, .int .i64 0, .string (⟨#[]⟩ : ByteArray)]) ?_ 3 _ rfl; (with_reducible repeat (first | refine blk_drewN ?_ _ | refine blk_drew ?_ | refine blk_alloc ?_ _)); refine blk_put (cs := #[.bool t271, .int .i64 t272, .int .i64 0, .int .i64 0, .string (⟨#[]⟩ : ByteArray)]) ?_ 2 _ rfl; (with_reducible repeat (first | refine blk_drewN ?_ _ | refine blk_drew ?_ | refine blk_alloc ?_ _)); refine blk_put (cs := #[.bool t271, .int .i64 0, .int .i64 0, .int .i64 0, .string (⟨#[]⟩ : ByteArray)]) ?_ 1 _ rfl; (with_reducible repeat (first | refine blk_drewN ?_ _ | refine blk_drew ?_ | refine blk_alloc ?_ _)); refine blk_put (cs := #[.bool false, .int .i64 0, .int .i64 0, .int .i64 0, .string (⟨#[]⟩ : ByteArray)]) ?_ 0 _ rfl; (with_reducible repeat (first | refine blk_drewN ?_ _ | refine blk_drew ?_ | refine blk_alloc ?_ _)); exact BK277.out) hb); have n2_ := Aside0.mk (below_step (by repeat (first | (with_reducible first | exact HB.out | apply below_alloc | apply pw_below_drewN | apply below_drew1 | refine below_set ?_ GE269.out | refine below_set ?_ GE277.out) | exact HB.out)) hb); clear BK269; clear BK277; clear HB; have BK269 := n0_; have BK277 := n1_; have HB := n2_; clear n0_ n1_ n2_; (try clear hb); (try clear hb2); (try clear hk); (try clear hi)) | ((with_reducible refine gate_dst (N := 10) rfl ?_); refine box_event ?hg (N := 10) ?hd (cs := #[.bool false, .int .i64 0, .int .i64 0, .int .i64 0, .string (⟨#[]⟩ : ByteArray)]) (t := 23) ?hr ?_; (case hd => rfl); (case hg => rfl); (case hr => first | (go_simp; done) | (go_simp; rfl)); intro gb284 hg w46 hbox hb; have n0_ := Aside0.mk (blk_below (g := gb269) (o := .cells #[.bool a2_0, .int .u64 a2_1, .int .u64 a2_2, .bool a2_3, .int .u64 a2_4, .int .u64 a2_5] 28 (0, 0)) (by (with_reducible repeat (first | refine blk_drewN ?_ _ | refine blk_drew ?_ | refine blk_alloc ?_ _)); exact BK269.out) hb); have n1_ := Aside0.mk (blk_below (g := gb277) (o := .cells #[.bool t271, .int .i64 t272, .int .i64 t273, .int .i64 t274, .string t275] 23 (0, 0)) (by (with_reducible repeat (first | refine blk_drewN ?_ _ | refine blk_drew ?_ | refine blk_alloc ?_ _)); exact BK277.out) hb); have n2_ := Aside0.mk (below_step (by repeat (first | (with_reducible first | exact HB.out | apply below_alloc | apply pw_below_drewN | apply below_drew1 | refine below_set ?_ GE269.out | refine below_set ?_ GE277.out) | exact HB.out)) hb); have n3_ := Aside0.mk (hbox); have n4_ := Aside0.mk ((by rw [hg]; exact (below_size (by repeat (first | (with_reducible first | exact HB.out | apply below_alloc | apply pw_below_drewN | apply below_drew1 | refine below_set ?_ GE269.out | refine below_set ?_ GE277.out) | exact HB.out))) : w.heap.size ≤ gb284)); have n5_ := Aside0.mk ((by rw [hg]; exact (below_size (by repeat (first | (with_reducible first | exact HB.out | apply below_alloc | apply pw_below_drewN | apply below_drew1 | refine below_set ?_ GE269.out | refine below_set ?_ GE277.out) | exact HB.out))) : w.heap.size ≤ gb284)); have n6_ := Aside0.mk ((by rw [hg]; exact Nat.ne_of_lt (blk_lt (g := gb269) (o := .cells #[.bool a2_0, .int .u64 a2_1, .int .u64 a2_2, .bool a2_3, .int .u64 a2_4, .int .u64 a2_5] 28 (0, 0)) (by (with_reducible repeat (first | refine blk_drewN ?_ _ | refine blk_drew ?_ | refine blk_alloc ?_ _)); exact BK269.out)) : gb269 ≠ gb284)); have n7_ := Aside0.mk ((by rw [hg]; exact Nat.ne_of_gt (blk_lt (g := gb269) (o := .cells #[.bool a2_0, .int .u64 a2_1, .int .u64 a2_2, .bool a2_3, .int .u64 a2_4, .int .u64 a2_5] 28 (0, 0)) (by (with_reducible repeat (first | refine blk_drewN ?_ _ | refine blk_drew ?_ | refine blk_alloc ?_ _)); exact BK269.out)) : gb284 ≠ gb269)); have n8_ := Aside0.mk ((by rw [hg]; exact Nat.ne_of_lt (blk_lt (g := gb277) (o := .cells #[.bool t271, .int .i64 t272, .int .i64 t273, .int .i64 t274, .string t275] 23 (0, 0)) (by (with_reducible repeat (first | refine blk_drewN ?_ _ | refine blk_drew ?_ | refine blk_alloc ?_ _)); exact BK277.out)) : gb277 ≠ gb284)); have n9_ := Aside0.mk ((by rw [hg]; exact Nat.ne_of_gt (blk_lt (g := gb277) (o := .cells #[.bool t271, .int .i64 t272, .int .i64 t273, .int .i64 t274, .string t275] 23 (0, 0)) (by (with_reducible repeat (first | refine blk_drewN ?_ _ | refine blk_drew ?_ | refine blk_alloc ?_ _)); exact BK277.out)) : gb284 ≠ gb277)); clear BK269; clear BK277; clear HB; have BK269 := n0_; have BK277 := n1_; have HB := n2_; have BK284 := n3_; have GW284 := n4_; have GE284 := n5_; have NB269_284 := n6_; have NB284_269 := n7_; have NB277_284 := n8_; have NB284_277 := n9_; clear n0_ n1_ n2_ n3_ n4_ n5_ n6_ n7_ n8_ n9_; clear hb hbox hg; have hnb47 := NB284_269.out; have hnc47 := NB269_284.out; have hnb48 := NB284_277.out; have hnc48 := NB277_284.out; have hcz49_0 : w46.cell? ⟨gb284, 0, none⟩ = some (.bool false) := (blk_cell BK284.out 0).trans rfl; have hcz49_1 : w46.cell? ⟨gb284, 1, none⟩ = some (.int .i64 0) := (blk_cell BK284.out 1).trans rfl; have hcz49_2 : w46.cell? ⟨gb284, 2, none⟩ = some (.int .i64 0) := (blk_cell BK284.out 2).trans rfl; have hcz49_3 : w46.cell? ⟨gb284, 3, none⟩ = some (.int .i64 0) := (blk_cell BK284.out 3).trans rfl; have hcz49_4 : w46.cell? ⟨gb284, 4, none⟩ = some (.string (⟨#[]⟩ : ByteArray)) := (blk_cell BK284.out 4).trans rfl; have hfz49_0 := blk_frozen BK284.out 0; have hfz49_1 := blk_frozen BK284.out 1; have hfz49_2 := blk_frozen BK284.out 2; have hfz49_3 := blk_frozen BK284.out 3; have hfz49_4 := blk_frozen BK284.out 4))
  go_ret
  exact ⟨by first | rfl | (simp [errW_none, errW_some] <;> rfl) | (simp [*, errW_none, errW_some] <;> rfl), by repeat (first | (with_reducible first | exact HB.out | apply below_alloc | apply pw_below_drewN | apply below_drew1 | refine below_set ?_ GE269.out | refine below_set ?_ GE277.out | refine below_set ?_ GE284.out) | exact HB.out)⟩

end Go.Proofs.Ytmkjeidejgbicaa.PBase
