/- Functions of the program as Lean functions, each with a proof that a call comes to what it says. Conditions: those of each theorem. Laid by a program of this session. -/
import Derived.Test.YtedampcicmaamaaPBasex0
import Derived.Test.YtedampcicmaamaaPBasex1
import Derived.Test.YtedampcicmaamaaPBasex4
import Derived.Test.YtedampcicmaamaaPBasex6
import Derived.Test.YtedampcicmaamaaPBasex8
namespace Go.Proofs.Ytedampcicmaamaa.PBase
open Go.RowKit Go.Proofs.Ytedampcicmaamaa Go.Proofs.YtedampcicmaamaaW.PrintWords Go.Proofs.YtedampcicmaamaaW.PrintLast Go.Proofs.YtedampcicmaamaaW.PrintMore
attribute [local go_sem] max2_int min2_int max_two min_two max_three min_three max_four min_four   -- for this text's walks alone
set_option linter.unusedVariables false
set_option linter.unusedSimpArgs false

attribute [local go_sem high] eqA26
/-! ### crosswaylaw06_FourBack: function 6 -/
def crosswaylaw06_FourBack.j0 : Nat → ByteArray → Int → Bool → Int → Int → Bool → Bool → Int → Int → Int → Bool → Int → Int → Bool → Int → Int → ByteArray → ByteArray → Option (Bool)
 | 0, _, _, _, _, _, _, _, _, _, _, _, _, _, _, _, _, _, _ => none
 | k + 1, x1, x2, x7, x399000, x399001, x399002, x399003, x399004, x399005, x399006, x399007, x399008, x399009, x399010, x399011, x399012, x399013, x399014 => (ip4_Lay.f k x399000 x399001 x399002 x399003 x399004 x399005 x399006 x399007 x399008 x399009 x399010 x399011 x399012 x399013 x399014).bind fun bt400 => (if bt400.2 = 0 then (if bt400.1.size + x1.size ≤ 9223372036854775807 then ((ip4_Take.f k (bt400.1 ++ x1)).bind fun bt402 => (if x2 < 0 then (if (bt400.1.size : Int) = 0 then (none) else (if 0 ≤ (Int.tmod (wrap64 (-(wrap64 (x2 + 1)))) (bt400.1.size : Int)) then (if (Int.tmod (wrap64 (-(wrap64 (x2 + 1)))) (bt400.1.size : Int)) ≤ (bt400.1.size : Int) then ((ip4_Take.f k (bt400.1.extract 0 ((Int.tmod (wrap64 (-(wrap64 (x2 + 1)))) (bt400.1.size : Int)) : Int).toNat)).bind fun bt419 => (if x7 = true then (if bt402.2.2.2.2.2.2.2.2.2.2.2.2.2.2.2 = 0 then (if (bt402.1 == x399000 && (bt402.2.1 == x399001 && (bt402.2.2.1 == x399002 && (bt402.2.2.2.1 == x399003 && (bt402.2.2.2.2.1 == x399004 && (bt402.2.2.2.2.2.1 == x399005 && (bt402.2.2.2.2.2.2.1 == x399006 && ((bt402.2.2.2.2.2.2.2.1 == x399007 && (bt402.2.2.2.2.2.2.2.2.1 == x399008 && (bt402.2.2.2.2.2.2.2.2.2.1 == x399009))) && ((bt402.2.2.2.2.2.2.2.2.2.2.1 == x399010 && (bt402.2.2.2.2.2.2.2.2.2.2.2.1 == x399011 && (bt402.2.2.2.2.2.2.2.2.2.2.2.2.1 == x399012))) && (bt402.2.2.2.2.2.2.2.2.2.2.2.2.2.1.toList == x399013.toList && (bt402.2.2.2.2.2.2.2.2.2.2.2.2.2.2.1.toList == x399014.toList))))))))))) = true then (some (bt419.2.2.2.2.2.2.2.2.2.2.2.2.2.2.2 != 0)) else (some false)) else (some false)) else (some false))) else (none)) else (none))) else (if (bt400.1.size : Int) = 0 then (none) else (if 0 ≤ (Int.tmod x2 (bt400.1.size : Int)) then (if (Int.tmod x2 (bt400.1.size : Int)) ≤ (bt400.1.size : Int) then ((ip4_Take.f k (bt400.1.extract 0 ((Int.tmod x2 (bt400.1.size : Int)) : Int).toNat)).bind fun bt436 => (if x7 = true then (if bt402.2.2.2.2.2.2.2.2.2.2.2.2.2.2.2 = 0 then (if (bt402.1 == x399000 && (bt402.2.1 == x399001 && (bt402.2.2.1 == x399002 && (bt402.2.2.2.1 == x399003 && (bt402.2.2.2.2.1 == x399004 && (bt402.2.2.2.2.2.1 == x399005 && (bt402.2.2.2.2.2.2.1 == x399006 && ((bt402.2.2.2.2.2.2.2.1 == x399007 && (bt402.2.2.2.2.2.2.2.2.1 == x399008 && (bt402.2.2.2.2.2.2.2.2.2.1 == x399009))) && ((bt402.2.2.2.2.2.2.2.2.2.2.1 == x399010 && (bt402.2.2.2.2.2.2.2.2.2.2.2.1 == x399011 && (bt402.2.2.2.2.2.2.2.2.2.2.2.2.1 == x399012))) && (bt402.2.2.2.2.2.2.2.2.2.2.2.2.2.1.toList == x399013.toList && (bt402.2.2.2.2.2.2.2.2.2.2.2.2.2.2.1.toList == x399014.toList))))))))))) = true then (some (bt436.2.2.2.2.2.2.2.2.2.2.2.2.2.2.2 != 0)) else (some false)) else (some false)) else (some false))) else (none)) else (none))))) else (none)) else (if x7 = true then (some (bt400.1.toList == ([] : List UInt8))) else (some false)))
def crosswaylaw06_FourBack.f (k : Nat) (a0_0 : Int) (a0_1 : Int) (a0_2 : Bool) (a0_3 : Bool) (a0_4 : Int) (a0_5 : Int) (a0_6 : Int) (a0_7 : Bool) (a0_8 : Int) (a0_9 : Int) (a0_10 : Bool) (a0_11 : Int) (a0_12 : Int) (a0_13 : ByteArray) (a0_14 : ByteArray) (a1 : ByteArray) (a2 : Int) : Option (Bool) := (crosswaylaw06_awake.f k).bind fun t399 => (if t399 = true then (if (a1.size : Int) > 5000 then (if 0 ≤ 5000 then (if 5000 ≤ (a1.size : Int) then (crosswaylaw06_FourBack.j0 k (a1.extract 0 5000) a2 t399 a0_0 a0_1 a0_2 a0_3 a0_4 a0_5 a0_6 a0_7 a0_8 a0_9 a0_10 a0_11 a0_12 a0_13 a0_14) else (none)) else (none)) else (crosswaylaw06_FourBack.j0 k a1 a2 t399 a0_0 a0_1 a0_2 a0_3 a0_4 a0_5 a0_6 a0_7 a0_8 a0_9 a0_10 a0_11 a0_12 a0_13 a0_14)) else (some false))
theorem crosswaylaw06_FourBack.mono_l : ∀ k, (∀ y0 y1 y2 y3 y4 y5 y6 y7 y8 y9 y10 y11 y12 y13 y14 y15 y16 y17, LeO (crosswaylaw06_FourBack.j0 k y0 y1 y2 y3 y4 y5 y6 y7 y8 y9 y10 y11 y12 y13 y14 y15 y16 y17) (crosswaylaw06_FourBack.j0 (k + 1) y0 y1 y2 y3 y4 y5 y6 y7 y8 y9 y10 y11 y12 y13 y14 y15 y16 y17))
 | 0 => fun _ _ _ _ _ _ _ _ _ _ _ _ _ _ _ _ _ _ r h => by simp [crosswaylaw06_FourBack.j0] at h
 | k + 1 => by
  have ih0 := crosswaylaw06_FourBack.mono_l k
  ·
   intro y0 y1 y2 y3 y4 y5 y6 y7 y8 y9 y10 y11 y12 y13 y14 y15 y16 y17
   unfold crosswaylaw06_FourBack.j0
   repeat' first
   | (with_reducible exact ih0 _ _ _ _ _ _ _ _ _ _ _ _ _ _ _ _ _ _)
   | (with_reducible exact crosswaylaw06_awake.mono _)
   | (with_reducible exact ip4_Lay.mono _ _ _ _ _ _ _ _ _ _ _ _ _ _ _ _)
   | (with_reducible exact ip4_Take.mono _ _)
   | (with_reducible exact LeO.refl _)
   | (with_reducible exact LeO.none _)
   | (with_reducible refine LeO.ite ?_ ?_)
   | (with_reducible refine LeO.bind ?_ (fun _ => ?_))
   | exact ih0 _ _ _ _ _ _ _ _ _ _ _ _ _ _ _ _ _ _
   | exact crosswaylaw06_awake.mono _
   | exact ip4_Lay.mono _ _ _ _ _ _ _ _ _ _ _ _ _ _ _ _
   | exact ip4_Take.mono _ _
   | exact LeO.none _
   | refine LeO.ite ?_ ?_
   | refine LeO.bind ?_ (fun _ => ?_)
theorem crosswaylaw06_FourBack.mono : ∀ a0 a1 a2 a3 a4 a5 a6 a7 a8 a9 a10 a11 a12 a13 a14 a15 a16 k, LeO (crosswaylaw06_FourBack.f k a0 a1 a2 a3 a4 a5 a6 a7 a8 a9 a10 a11 a12 a13 a14 a15 a16) (crosswaylaw06_FourBack.f (k + 1) a0 a1 a2 a3 a4 a5 a6 a7 a8 a9 a10 a11 a12 a13 a14 a15 a16) := by
 intro a0 a1 a2 a3 a4 a5 a6 a7 a8 a9 a10 a11 a12 a13 a14 a15 a16 k
 have ih0 := crosswaylaw06_FourBack.mono_l k
 unfold crosswaylaw06_FourBack.f
 repeat' first
   | (with_reducible exact ih0 _ _ _ _ _ _ _ _ _ _ _ _ _ _ _ _ _ _)
   | (with_reducible exact crosswaylaw06_awake.mono _)
   | (with_reducible exact ip4_Lay.mono _ _ _ _ _ _ _ _ _ _ _ _ _ _ _ _)
   | (with_reducible exact ip4_Take.mono _ _)
   | (with_reducible exact LeO.refl _)
   | (with_reducible exact LeO.none _)
   | (with_reducible refine LeO.ite ?_ ?_)
   | (with_reducible refine LeO.bind ?_ (fun _ => ?_))
   | exact ih0 _ _ _ _ _ _ _ _ _ _ _ _ _ _ _ _ _ _
   | exact crosswaylaw06_awake.mono _
   | exact ip4_Lay.mono _ _ _ _ _ _ _ _ _ _ _ _ _ _ _ _
   | exact ip4_Take.mono _ _
   | exact LeO.none _
   | refine LeO.ite ?_ ?_
   | refine LeO.bind ?_ (fun _ => ?_)
set_option maxHeartbeats 8000000 in
set_option maxRecDepth 100000 in
theorem crosswaylaw06_FourBack.calls (k : Nat) (a0_0 : Int) (a0_1 : Int) (a0_2 : Bool) (a0_3 : Bool) (a0_4 : Int) (a0_5 : Int) (a0_6 : Int) (a0_7 : Bool) (a0_8 : Int) (a0_9 : Int) (a0_10 : Bool) (a0_11 : Int) (a0_12 : Int) (a0_13 : ByteArray) (a0_14 : ByteArray) (a1 : ByteArray) (a2 : Int) (r : Bool) (w : World) (h : crosswaylaw06_FourBack.f k a0_0 a0_1 a0_2 a0_3 a0_4 a0_5 a0_6 a0_7 a0_8 a0_9 a0_10 a0_11 a0_12 a0_13 a0_14 a1 a2 = some r) (hrt : r = true) :
  Calls Try.prog 6 #[.agg #[.int .i64 a0_0, .int .i64 a0_1, .bool a0_2, .bool a0_3, .int .i64 a0_4, .int .i64 a0_5, .int .i64 a0_6, .bool a0_7, .int .u64 a0_8, .int .u64 a0_9, .bool a0_10, .int .u64 a0_11, .int .u64 a0_12, .string a0_13, .string a0_14], .string a1, .int .i64 a2] w fun e w' => e = .returned (.bool r) ∧ Below w.heap.size w w' := by
 have HRT := Aside0.mk hrt
 clear hrt
 have hu26 := Try.underlying26
 have HB := Aside0.mk (Below.refl w.heap.size w)
 have H : ((crosswaylaw06_awake.f k).bind fun t399 => (if t399 = true then (if (a1.size : Int) > 5000 then (if 0 ≤ 5000 then (if 5000 ≤ (a1.size : Int) then (crosswaylaw06_FourBack.j0 k (a1.extract 0 5000) a2 t399 a0_0 a0_1 a0_2 a0_3 a0_4 a0_5 a0_6 a0_7 a0_8 a0_9 a0_10 a0_11 a0_12 a0_13 a0_14) else (none)) else (none)) else (crosswaylaw06_FourBack.j0 k a1 a2 t399 a0_0 a0_1 a0_2 a0_3 a0_4 a0_5 a0_6 a0_7 a0_8 a0_9 a0_10 a0_11 a0_12 a0_13 a0_14)) else (some false))) = some r := h
 clear h
 replace H := Option.bind_eq_some_iff.mp H
 obtain ⟨t399, A40, H⟩ := H
 have A4 := Aside0.mk A40
 clear A40
 by_cases c5 : t399 = true
 ·
  subst c5
  rw [if_pos rfl] at H
  have HC6 := Aside0.mk H
  clear H
  go_enter Try.func6, Try.ntmps6
  go_upto_if 19 with (first | ((with_reducible refine gate_dst (N := 3) rfl ?_); refine box_event ?hg (N := 3) ?hd (cs := #[.int .i64 a0_0, .int .i64 a0_1, .bool a0_2, .bool a0_3, .int .i64 a0_4, .int .i64 a0_5, .int .i64 a0_6, .bool a0_7, .int .u64 a0_8, .int .u64 a0_9, .bool a0_10, .int .u64 a0_11, .int .u64 a0_12, .string a0_13, .string a0_14]) (t := 26) ?hr ?_; (case hd => rfl); (case hg => rfl); (case hr => first | (go_simp; done) | (go_simp; rfl)); intro gb398 hg w7 hbox hb; have n0_ := Aside0.mk (below_step (by repeat (first | (with_reducible first | exact HB.out | apply below_alloc | apply pw_below_drewN | apply below_drew1) | exact HB.out)) hb); have n1_ := Aside0.mk (hbox); have n2_ := Aside0.mk ((by rw [hg]; exact (below_size (by repeat (first | (with_reducible first | exact HB.out | apply below_alloc | apply pw_below_drewN | apply below_drew1) | exact HB.out))) : w.heap.size ≤ gb398)); have n3_ := Aside0.mk ((by rw [hg]; exact (below_size (by repeat (first | (with_reducible first | exact HB.out | apply below_alloc | apply pw_below_drewN | apply below_drew1) | exact HB.out))) : w.heap.size ≤ gb398)); clear HB; have HB := n0_; have BK398 := n1_; have GW398 := n2_; have GE398 := n3_; clear n0_ n1_ n2_ n3_; clear hb hbox hg) | ((with_reducible refine gate_callee (f := 8) rfl ?_); refine goesL_ (some 14) rfl rfl Try.func8 (by kernel_rfl) rfl #[] rfl (by (try simp only [List.map_toArray, List.map_cons, List.map_nil]); first | done | rfl | (simp only [List.length_drop, List.length_take]; rfl)) ?_; (with_reducible refine (crosswaylaw06_awake.calls k  true _ A4.out).mono ?_); rintro e w8 ⟨rfl, hb⟩; refine ⟨_, rfl, ?_⟩; have n0_ := Aside0.mk (blk_below (g := gb398) (o := .cells #[.int .i64 a0_0, .int .i64 a0_1, .bool a0_2, .bool a0_3, .int .i64 a0_4, .int .i64 a0_5, .int .i64 a0_6, .bool a0_7, .int .u64 a0_8, .int .u64 a0_9, .bool a0_10, .int .u64 a0_11, .int .u64 a0_12, .string a0_13, .string a0_14] 26 (0, 0)) (by (with_reducible repeat (first | refine blk_drewN ?_ _ | refine blk_drew ?_ | refine blk_alloc ?_ _)); exact BK398.out) hb); have n1_ := Aside0.mk (below_step (by repeat (first | (with_reducible first | exact HB.out | apply below_alloc | apply pw_below_drewN | apply below_drew1 | refine below_set ?_ GE398.out) | exact HB.out)) hb); clear BK398; clear HB; have BK398 := n0_; have HB := n1_; clear n0_ n1_; (try clear hb); (try clear hb2); (try clear hk); (try clear hi)))
  (try simp only [Act.put, List.setIfInBounds_toArray, List.set_cons_zero, List.set_cons_succ])
  go_cut [1] (fun v1 wc => ∃ (kq : Nat) (x1_5 : ByteArray), v1 = .string x1_5 ∧ Aside0 (crosswaylaw06_FourBack.j0 kq x1_5 a2 true a0_0 a0_1 a0_2 a0_3 a0_4 a0_5 a0_6 a0_7 a0_8 a0_9 a0_10 a0_11 a0_12 a0_13 a0_14 = some r) ∧ Aside0 (kq ≤ k) ∧ Aside0 (wc.heap[gb398]? = some (.cells #[.int .i64 a0_0, .int .i64 a0_1, .bool a0_2, .bool a0_3, .int .i64 a0_4, .int .i64 a0_5, .int .i64 a0_6, .bool a0_7, .int .u64 a0_8, .int .u64 a0_9, .bool a0_10, .int .u64 a0_11, .int .u64 a0_12, .string a0_13, .string a0_14] 26 (0, 0))) ∧ Aside0 (Below w.heap.size w wc))
  case first =>
   have H := HC6.out
   clear HC6
   by_cases c9 : (a1.size : Int) > 5000
   ·
    rw [if_pos c9] at H
    have c9b0 : decide (5000 < (a1.size : Int)) = true := decide_eq_true c9
    have c9b1 : decide (5000 < a1.size) = true := decide_eq_true (by omega)
    clear c9
    (first | rw [c9b0] | (simp only [i64_w, i32_w]; rw [c9b0]) | skip)
    by_cases c10 : 0 ≤ 5000
    ·
     rw [if_pos c10] at H
     have c10b0 := eq_true c10
     have c10b1 : decide (0 ≤ 5000) = true := decide_eq_true c10
     clear c10
     by_cases c11 : 5000 ≤ (a1.size : Int)
     ·
      rw [if_pos c11] at H
      have c11b0 := eq_true c11
      have c11b1 : decide (5000 ≤ (a1.size : Int)) = true := decide_eq_true c11
      clear c11
      have H' := Aside0.mk H
      clear H
      go_wp2
      go_meet
      case rel => exact ⟨_, (a1.extract 0 5000), (by first | rfl | (simp; done) | (simp [*]; done)), H', ⟨by first | omega | exact Nat.le_refl _⟩, ⟨by (with_reducible repeat (first | refine blk_drewN ?_ _ | refine blk_drew ?_ | refine blk_alloc ?_ _)); exact BK398.out⟩, ⟨by repeat (first | (with_reducible first | exact HB.out | apply below_alloc | apply pw_below_drewN | apply below_drew1 | refine below_set ?_ GE398.out) | exact HB.out)⟩⟩
     ·
      rw [if_neg c11] at H
      exact absurd H (by simp)
    ·
     rw [if_neg c10] at H
     exact absurd H (by simp)
   ·
    rw [if_neg c9] at H
    have c9b0 : decide (5000 < (a1.size : Int)) = false := decide_eq_false c9
    have c9b1 : decide (5000 < a1.size) = false := decide_eq_false (by omega)
    clear c9
    (first | rw [c9b0] | (simp only [i64_w, i32_w]; rw [c9b0]) | skip)
    have H' := Aside0.mk H
    clear H
    go_wp2
    go_meet
    case rel => exact ⟨_, (a1), (by first | rfl | (simp; done) | (simp [*]; done)), H', ⟨by first | omega | exact Nat.le_refl _⟩, ⟨by (with_reducible repeat (first | refine blk_drewN ?_ _ | refine blk_drew ?_ | refine blk_alloc ?_ _)); exact BK398.out⟩, ⟨by repeat (first | (with_reducible first | exact HB.out | apply below_alloc | apply pw_below_drewN | apply below_drew1 | refine below_set ?_ GE398.out) | exact HB.out)⟩⟩
  case rest =>
   clear HC6
   try clear c1
   try clear p2
   try clear c5
   try clear c6
   try clear c8
   try clear c9
   try clear c9b0
   try clear c9b1
   try clear c10
   try clear c10b0
   try clear c10b1
   try clear c11
   try clear c11b0
   try clear c11b1
   obtain ⟨kq, x1_5, rfl, HA, HJ5, BK398, HB⟩ := hcut
   cases kq with
   | zero => exact absurd HA.out (by simp [crosswaylaw06_FourBack.j0])
   | succ kj5 =>
    have H := HA.out
    clear HA
    simp only [crosswaylaw06_FourBack.j0] at H
    replace H := Option.bind_eq_some_iff.mp H
    obtain ⟨⟨t400, t401⟩, A120, H⟩ := H
    replace H : (if t401 = 0 then (if t400.size + x1_5.size ≤ 9223372036854775807 then ((ip4_Take.f kj5 (t400 ++ x1_5)).bind fun bt402 => (if a2 < 0 then (if (t400.size : Int) = 0 then (none) else (if 0 ≤ (Int.tmod (wrap64 (-(wrap64 (a2 + 1)))) (t400.size : Int)) then (if (Int.tmod (wrap64 (-(wrap64 (a2 + 1)))) (t400.size : Int)) ≤ (t400.size : Int) then ((ip4_Take.f kj5 (t400.extract 0 ((Int.tmod (wrap64 (-(wrap64 (a2 + 1)))) (t400.size : Int)) : Int).toNat)).bind fun bt419 => (if true = true then (if bt402.2.2.2.2.2.2.2.2.2.2.2.2.2.2.2 = 0 then (if (bt402.1 == a0_0 && (bt402.2.1 == a0_1 && (bt402.2.2.1 == a0_2 && (bt402.2.2.2.1 == a0_3 && (bt402.2.2.2.2.1 == a0_4 && (bt402.2.2.2.2.2.1 == a0_5 && (bt402.2.2.2.2.2.2.1 == a0_6 && ((bt402.2.2.2.2.2.2.2.1 == a0_7 && (bt402.2.2.2.2.2.2.2.2.1 == a0_8 && (bt402.2.2.2.2.2.2.2.2.2.1 == a0_9))) && ((bt402.2.2.2.2.2.2.2.2.2.2.1 == a0_10 && (bt402.2.2.2.2.2.2.2.2.2.2.2.1 == a0_11 && (bt402.2.2.2.2.2.2.2.2.2.2.2.2.1 == a0_12))) && (bt402.2.2.2.2.2.2.2.2.2.2.2.2.2.1.toList == a0_13.toList && (bt402.2.2.2.2.2.2.2.2.2.2.2.2.2.2.1.toList == a0_14.toList))))))))))) = true then (some (bt419.2.2.2.2.2.2.2.2.2.2.2.2.2.2.2 != 0)) else (some false)) else (some false)) else (some false))) else (none)) else (none))) else (if (t400.size : Int) = 0 then (none) else (if 0 ≤ (Int.tmod a2 (t400.size : Int)) then (if (Int.tmod a2 (t400.size : Int)) ≤ (t400.size : Int) then ((ip4_Take.f kj5 (t400.extract 0 ((Int.tmod a2 (t400.size : Int)) : Int).toNat)).bind fun bt436 => (if true = true then (if bt402.2.2.2.2.2.2.2.2.2.2.2.2.2.2.2 = 0 then (if (bt402.1 == a0_0 && (bt402.2.1 == a0_1 && (bt402.2.2.1 == a0_2 && (bt402.2.2.2.1 == a0_3 && (bt402.2.2.2.2.1 == a0_4 && (bt402.2.2.2.2.2.1 == a0_5 && (bt402.2.2.2.2.2.2.1 == a0_6 && ((bt402.2.2.2.2.2.2.2.1 == a0_7 && (bt402.2.2.2.2.2.2.2.2.1 == a0_8 && (bt402.2.2.2.2.2.2.2.2.2.1 == a0_9))) && ((bt402.2.2.2.2.2.2.2.2.2.2.1 == a0_10 && (bt402.2.2.2.2.2.2.2.2.2.2.2.1 == a0_11 && (bt402.2.2.2.2.2.2.2.2.2.2.2.2.1 == a0_12))) && (bt402.2.2.2.2.2.2.2.2.2.2.2.2.2.1.toList == a0_13.toList && (bt402.2.2.2.2.2.2.2.2.2.2.2.2.2.2.1.toList == a0_14.toList))))))))))) = true then (some (bt436.2.2.2.2.2.2.2.2.2.2.2.2.2.2.2 != 0)) else (some false)) else (some false)) else (some false))) else (none)) else (none))))) else (none)) else (if true = true then (some (t400.toList == ([] : List UInt8))) else (some false))) = some r := H
    have A12 := Aside0.mk A120
    clear A120
    by_cases c13 : t401 = 0
    ·
     rw [if_pos c13] at H
     have c13b0 : (t401 == 0) = true := beq_iff_eq.mpr c13
     have c13b1 : (t401 != 0) = false := bne_eq_false_iff_eq.mpr c13
     clear c13
     by_cases c14 : t400.size + x1_5.size ≤ 9223372036854775807
     ·
      rw [if_pos c14] at H
      have c14b0 := eq_true c14
      have c14b1 : decide (t400.size + x1_5.size ≤ 9223372036854775807) = true := decide_eq_true c14
      try have c14b2 : (9223372036854775807 < t400.size + x1_5.size) = False := eq_false (Nat.not_lt.2 c14)
      replace H := Option.bind_eq_some_iff.mp H
      obtain ⟨⟨t402, t403, t404, t405, t406, t407, t408, t409, t410, t411, t412, t413, t414, t415, t416, t417⟩, A150, H⟩ := H
      replace H : (if a2 < 0 then (if (t400.size : Int) = 0 then (none) else (if 0 ≤ (Int.tmod (wrap64 (-(wrap64 (a2 + 1)))) (t400.size : Int)) then (if (Int.tmod (wrap64 (-(wrap64 (a2 + 1)))) (t400.size : Int)) ≤ (t400.size : Int) then ((ip4_Take.f kj5 (t400.extract 0 ((Int.tmod (wrap64 (-(wrap64 (a2 + 1)))) (t400.size : Int)) : Int).toNat)).bind fun bt419 => (if true = true then (if t417 = 0 then (if (t402 == a0_0 && (t403 == a0_1 && (t404 == a0_2 && (t405 == a0_3 && (t406 == a0_4 && (t407 == a0_5 && (t408 == a0_6 && ((t409 == a0_7 && (t410 == a0_8 && (t411 == a0_9))) && ((t412 == a0_10 && (t413 == a0_11 && (t414 == a0_12))) && (t415.toList == a0_13.toList && (t416.toList == a0_14.toList))))))))))) = true then (some (bt419.2.2.2.2.2.2.2.2.2.2.2.2.2.2.2 != 0)) else (some false)) else (some false)) else (some false))) else (none)) else (none))) else (if (t400.size : Int) = 0 then (none) else (if 0 ≤ (Int.tmod a2 (t400.size : Int)) then (if (Int.tmod a2 (t400.size : Int)) ≤ (t400.size : Int) then ((ip4_Take.f kj5 (t400.extract 0 ((Int.tmod a2 (t400.size : Int)) : Int).toNat)).bind fun bt436 => (if true = true then (if t417 = 0 then (if (t402 == a0_0 && (t403 == a0_1 && (t404 == a0_2 && (t405 == a0_3 && (t406 == a0_4 && (t407 == a0_5 && (t408 == a0_6 && ((t409 == a0_7 && (t410 == a0_8 && (t411 == a0_9))) && ((t412 == a0_10 && (t413 == a0_11 && (t414 == a0_12))) && (t415.toList == a0_13.toList && (t416.toList == a0_14.toList))))))))))) = true then (some (bt436.2.2.2.2.2.2.2.2.2.2.2.2.2.2.2 != 0)) else (some false)) else (some false)) else (some false))) else (none)) else (none)))) = some r := H
      have A15 := Aside0.mk A150
      clear A150
      by_cases c16 : a2 < 0
      ·
       rw [if_pos c16] at H
       have c16b0 : decide (a2 < 0) = true := decide_eq_true c16
       clear c16
       by_cases c17 : (t400.size : Int) = 0
       ·
        rw [if_pos c17] at H
        exact absurd H (by simp)
       ·
        rw [if_neg c17] at H
        have c17b0 : ((t400.size : Int) == 0) = false := beq_eq_false_iff_ne.mpr c17
        have c17b1 : ((t400.size : Int) != 0) = true := bne_iff_ne.mpr c17
        obtain ⟨ji18, hji18⟩ : ∃ j_ : Int, (Int.tmod (wrap64 (-(wrap64 (a2 + 1)))) (t400.size : Int)) = j_ := ⟨_, rfl⟩
        replace H : (if 0 ≤ (ji18) then (if (ji18) ≤ (t400.size : Int) then ((ip4_Take.f kj5 (t400.extract 0 ((ji18) : Int).toNat)).bind fun bt419 => (if true = true then (if t417 = 0 then (if (t402 == a0_0 && (t403 == a0_1 && (t404 == a0_2 && (t405 == a0_3 && (t406 == a0_4 && (t407 == a0_5 && (t408 == a0_6 && ((t409 == a0_7 && (t410 == a0_8 && (t411 == a0_9))) && ((t412 == a0_10 && (t413 == a0_11 && (t414 == a0_12))) && (t415.toList == a0_13.toList && (t416.toList == a0_14.toList))))))))))) = true then (some (bt419.2.2.2.2.2.2.2.2.2.2.2.2.2.2.2 != 0)) else (some false)) else (some false)) else (some false))) else (none)) else (none)) = some r := by first | (rw [hji18] at H; exact H) | (simp only [hji18] at H ⊢; exact H)
        (try rw [hji18] at A12)
        (try rw [hji18] at A15)
        by_cases c19 : 0 ≤ (ji18)
        ·
         rw [if_pos c19] at H
         have c19b0 := eq_true c19
         have c19b1 : decide (0 ≤ (ji18)) = true := decide_eq_true c19
         clear c19
         by_cases c20 : (ji18) ≤ (t400.size : Int)
         ·
          rw [if_pos c20] at H
          have c20b0 := eq_true c20
          have c20b1 : decide ((ji18) ≤ (t400.size : Int)) = true := decide_eq_true c20
          clear c20
          replace H := Option.bind_eq_some_iff.mp H
          obtain ⟨⟨t419, t420, t421, t422, t423, t424, t425, t426, t427, t428, t429, t430, t431, t432, t433, t434⟩, A210, H⟩ := H
          replace H : (if true = true then (if t417 = 0 then (if (t402 == a0_0 && (t403 == a0_1 && (t404 == a0_2 && (t405 == a0_3 && (t406 == a0_4 && (t407 == a0_5 && (t408 == a0_6 && ((t409 == a0_7 && (t410 == a0_8 && (t411 == a0_9))) && ((t412 == a0_10 && (t413 == a0_11 && (t414 == a0_12))) && (t415.toList == a0_13.toList && (t416.toList == a0_14.toList))))))))))) = true then (some (t434 != 0)) else (some false)) else (some false)) else (some false)) = some r := H
          have A21 := Aside0.mk A210
          clear A210
          have H1 : (if t417 = 0 then (if (t402 == a0_0 && (t403 == a0_1 && (t404 == a0_2 && (t405 == a0_3 && (t406 == a0_4 && (t407 == a0_5 && (t408 == a0_6 && ((t409 == a0_7 && (t410 == a0_8 && (t411 == a0_9))) && ((t412 == a0_10 && (t413 == a0_11 && (t414 == a0_12))) && (t415.toList == a0_13.toList && (t416.toList == a0_14.toList))))))))))) = true then (some (t434 != 0)) else (some false)) else (some false)) = some r := by rw [if_pos rfl] at H; exact H
          clear H
          have H := H1
          clear H1
          by_cases c22 : t417 = 0
          ·
           rw [if_pos c22] at H
           have c22b0 : (t417 == 0) = true := beq_iff_eq.mpr c22
           have c22b1 : (t417 != 0) = false := bne_eq_false_iff_eq.mpr c22
           clear c22
           by_cases c23 : (t402 == a0_0 && (t403 == a0_1 && (t404 == a0_2 && (t405 == a0_3 && (t406 == a0_4 && (t407 == a0_5 && (t408 == a0_6 && ((t409 == a0_7 && (t410 == a0_8 && (t411 == a0_9))) && ((t412 == a0_10 && (t413 == a0_11 && (t414 == a0_12))) && (t415.toList == a0_13.toList && (t416.toList == a0_14.toList))))))))))) = true
           ·
            rw [if_pos c23] at H
            have c23b0 : (t402 == a0_0 && (t403 == a0_1 && (t404 == a0_2 && (t405 == a0_3 && (t406 == a0_4 && (t407 == a0_5 && (t408 == a0_6 && ((t409 == a0_7 && (t410 == a0_8 && (t411 == a0_9))) && ((t412 == a0_10 && (t413 == a0_11 && (t414 == a0_12))) && (t415.toList == a0_13.toList && (t416.toList == a0_14.toList))))))))))) = true := c23
            (try (have c23b1 : decide (t402 = a0_0 && (t403 == a0_1 && (t404 == a0_2 && (t405 == a0_3 && (t406 == a0_4 && (t407 == a0_5 && (t408 == a0_6 && ((t409 == a0_7 && (t410 == a0_8 && (t411 == a0_9))) && ((t412 == a0_10 && (t413 == a0_11 && (t414 == a0_12))) && (t415.toList == a0_13.toList && (t416.toList == a0_14.toList))))))))))) = true := by simpa using c23))
            (try (have c23b2 : (t402 == a0_0 && (t403 == a0_1 && (t404 == a0_2 && (t405 == a0_3 && (t406 == a0_4 && (t407 == a0_5 && (t408 == a0_6 && ((t409 == a0_7 && (t410 == a0_8 && (t411 == a0_9))) && ((t412 == a0_10 && (t413 == a0_11 && (t414 == a0_12))) && (t415.toList == a0_13.toList && (t416.toList == a0_14.toList))))))))))) = true := by simpa using c23))
            clear c23
            obtain rfl := Option.some.inj H
            have hcz24_0 : wc.cell? ⟨gb398, 0, none⟩ = some (.int .i64 a0_0) := (blk_cell BK398.out 0).trans rfl
            have hcz24_1 : wc.cell? ⟨gb398, 1, none⟩ = some (.int .i64 a0_1) := (blk_cell BK398.out 1).trans rfl
            have hcz24_2 : wc.cell? ⟨gb398, 2, none⟩ = some (.bool a0_2) := (blk_cell BK398.out 2).trans rfl
            have hcz24_3 : wc.cell? ⟨gb398, 3, none⟩ = some (.bool a0_3) := (blk_cell BK398.out 3).trans rfl
            have hcz24_4 : wc.cell? ⟨gb398, 4, none⟩ = some (.int .i64 a0_4) := (blk_cell BK398.out 4).trans rfl
            have hcz24_5 : wc.cell? ⟨gb398, 5, none⟩ = some (.int .i64 a0_5) := (blk_cell BK398.out 5).trans rfl
            have hcz24_6 : wc.cell? ⟨gb398, 6, none⟩ = some (.int .i64 a0_6) := (blk_cell BK398.out 6).trans rfl
            have hcz24_7 : wc.cell? ⟨gb398, 7, none⟩ = some (.bool a0_7) := (blk_cell BK398.out 7).trans rfl
            have hcz24_8 : wc.cell? ⟨gb398, 8, none⟩ = some (.int .u64 a0_8) := (blk_cell BK398.out 8).trans rfl
            have hcz24_9 : wc.cell? ⟨gb398, 9, none⟩ = some (.int .u64 a0_9) := (blk_cell BK398.out 9).trans rfl
            have hcz24_10 : wc.cell? ⟨gb398, 10, none⟩ = some (.bool a0_10) := (blk_cell BK398.out 10).trans rfl
            have hcz24_11 : wc.cell? ⟨gb398, 11, none⟩ = some (.int .u64 a0_11) := (blk_cell BK398.out 11).trans rfl
            have hcz24_12 : wc.cell? ⟨gb398, 12, none⟩ = some (.int .u64 a0_12) := (blk_cell BK398.out 12).trans rfl
            have hcz24_13 : wc.cell? ⟨gb398, 13, none⟩ = some (.string a0_13) := (blk_cell BK398.out 13).trans rfl
            have hcz24_14 : wc.cell? ⟨gb398, 14, none⟩ = some (.string a0_14) := (blk_cell BK398.out 14).trans rfl
            have hfz24_0 := blk_frozen BK398.out 0
            have hfz24_1 := blk_frozen BK398.out 1
            have hfz24_2 := blk_frozen BK398.out 2
            have hfz24_3 := blk_frozen BK398.out 3
            have hfz24_4 := blk_frozen BK398.out 4
            have hfz24_5 := blk_frozen BK398.out 5
            have hfz24_6 := blk_frozen BK398.out 6
            have hfz24_7 := blk_frozen BK398.out 7
            have hfz24_8 := blk_frozen BK398.out 8
            have hfz24_9 := blk_frozen BK398.out 9
            have hfz24_10 := blk_frozen BK398.out 10
            have hfz24_11 := blk_frozen BK398.out 11
            have hfz24_12 := blk_frozen BK398.out 12
            have hfz24_13 := blk_frozen BK398.out 13
            have hfz24_14 := blk_frozen BK398.out 14
            go_wp2_with (first | ((with_reducible refine gate_callee (f := 9) rfl ?_); refine goesL_ (some 24) rfl rfl Try.func9 (by kernel_rfl) rfl #[.agg #[.int .i64 a0_0, .int .i64 a0_1, .bool a0_2, .bool a0_3, .int .i64 a0_4, .int .i64 a0_5, .int .i64 a0_6, .bool a0_7, .int .u64 a0_8, .int .u64 a0_9, .bool a0_10, .int .u64 a0_11, .int .u64 a0_12, .string a0_13, .string a0_14]] rfl (by (try simp only [List.map_toArray, List.map_cons, List.map_nil]); first | done | rfl | (simp only [List.length_drop, List.length_take]; rfl)) ?_; (with_reducible refine (ip4_Lay.calls kj5 a0_0 a0_1 a0_2 a0_3 a0_4 a0_5 a0_6 a0_7 a0_8 a0_9 a0_10 a0_11 a0_12 a0_13 a0_14 t400 t401 _ A12.out).mono ?_); rintro e w25 ⟨rfl, hb⟩; refine ⟨_, rfl, ?_⟩; have n0_ := Aside0.mk (blk_below (g := gb398) (o := .cells #[.int .i64 a0_0, .int .i64 a0_1, .bool a0_2, .bool a0_3, .int .i64 a0_4, .int .i64 a0_5, .int .i64 a0_6, .bool a0_7, .int .u64 a0_8, .int .u64 a0_9, .bool a0_10, .int .u64 a0_11, .int .u64 a0_12, .string a0_13, .string a0_14] 26 (0, 0)) (by (with_reducible repeat (first | refine blk_drewN ?_ _ | refine blk_drew ?_ | refine blk_alloc ?_ _)); exact BK398.out) hb); have n1_ := Aside0.mk (below_step (by repeat (first | (with_reducible first | exact HB.out | apply below_alloc | apply pw_below_drewN | apply below_drew1 | refine below_set ?_ GE398.out) | exact HB.out)) hb); clear BK398; clear HB; have BK398 := n0_; have HB := n1_; clear n0_ n1_; (try clear hb); (try clear hb2); (try clear hk); (try clear hi)) | ((with_reducible refine gate_callee (f := 11) rfl ?_); refine goesL_ (some 38) rfl rfl Try.func11 (by kernel_rfl) rfl #[.string (t400 ++ x1_5)] rfl (by (try simp only [List.map_toArray, List.map_cons, List.map_nil]); first | done | rfl | (simp only [List.length_drop, List.length_take]; rfl)) ?_; (with_reducible refine (ip4_Take.calls kj5 (t400 ++ x1_5) t402 t403 t404 t405 t406 t407 t408 t409 t410 t411 t412 t413 t414 t415 t416 t417 _ A15.out).mono ?_); rintro e w26 ⟨rfl, hb⟩; refine ⟨_, rfl, ?_⟩; have n0_ := Aside0.mk (blk_below (g := gb398) (o := .cells #[.int .i64 a0_0, .int .i64 a0_1, .bool a0_2, .bool a0_3, .int .i64 a0_4, .int .i64 a0_5, .int .i64 a0_6, .bool a0_7, .int .u64 a0_8, .int .u64 a0_9, .bool a0_10, .int .u64 a0_11, .int .u64 a0_12, .string a0_13, .string a0_14] 26 (0, 0)) (by (with_reducible repeat (first | refine blk_drewN ?_ _ | refine blk_drew ?_ | refine blk_alloc ?_ _)); exact BK398.out) hb); have n1_ := Aside0.mk (below_step (by repeat (first | (with_reducible first | exact HB.out | apply below_alloc | apply pw_below_drewN | apply below_drew1 | refine below_set ?_ GE398.out) | exact HB.out)) hb); clear BK398; clear HB; have BK398 := n0_; have HB := n1_; clear n0_ n1_; (try clear hb); (try clear hb2); (try clear hk); (try clear hi)) | ((with_reducible refine gate_dst (N := 10) rfl ?_); refine box_event ?hg (N := 10) ?hd (cs := #[.int .i64 0, .int .i64 0, .bool false, .bool false, .int .i64 0, .int .i64 0, .int .i64 0, .bool false, .int .u64 0, .int .u64 0, .bool false, .int .u64 0, .int .u64 0, .string (⟨#[]⟩ : ByteArray), .string (⟨#[]⟩ : ByteArray)]) (t := 26) ?hr ?_; (case hd => rfl); (case hg => rfl); (case hr => first | (go_simp; done) | (go_simp; rfl)); intro gb418 hg w27 hbox hb; have n0_ := Aside0.mk (blk_below (g := gb398) (o := .cells #[.int .i64 a0_0, .int .i64 a0_1, .bool a0_2, .bool a0_3, .int .i64 a0_4, .int .i64 a0_5, .int .i64 a0_6, .bool a0_7, .int .u64 a0_8, .int .u64 a0_9, .bool a0_10, .int .u64 a0_11, .int .u64 a0_12, .string a0_13, .string a0_14] 26 (0, 0)) (by (with_reducible repeat (first | refine blk_drewN ?_ _ | refine blk_drew ?_ | refine blk_alloc ?_ _)); exact BK398.out) hb); have n1_ := Aside0.mk (below_step (by repeat (first | (with_reducible first | exact HB.out | apply below_alloc | apply pw_below_drewN | apply below_drew1 | refine below_set ?_ GE398.out) | exact HB.out)) hb); have n2_ := Aside0.mk (hbox); have n3_ := Aside0.mk ((by rw [hg]; exact (below_size (by repeat (first | (with_reducible first | exact HB.out | apply below_alloc | apply pw_below_drewN | apply below_drew1 | refine below_set ?_ GE398.out) | exact HB.out))) : w.heap.size ≤ gb418)); have n4_ := Aside0.mk ((by rw [hg]; exact (below_size (by repeat (first | (with_reducible first | exact HB.out | apply below_alloc | apply pw_below_drewN | apply below_drew1 | refine below_set ?_ GE398.out) | exact HB.out))) : w.heap.size ≤ gb418)); have n5_ := Aside0.mk ((by rw [hg]; exact Nat.ne_of_lt (blk_lt (g := gb398) (o := .cells #[.int .i64 a0_0, .int .i64 a0_1, .bool a0_2, .bool a0_3, .int .i64 a0_4, .int .i64 a0_5, .int .i64 a0_6, .bool a0_7, .int .u64 a0_8, .int .u64 a0_9, .bool a0_10, .int .u64 a0_11, .int .u64 a0_12, .string a0_13, .string a0_14] 26 (0, 0)) (by (with_reducible repeat (first | refine blk_drewN ?_ _ | refine blk_drew ?_ | refine blk_alloc ?_ _)); exact BK398.out)) : gb398 ≠ gb418)); have n6_ := Aside0.mk ((by rw [hg]; exact Nat.ne_of_gt (blk_lt (g := gb398) (o := .cells #[.int .i64 a0_0, .int .i64 a0_1, .bool a0_2, .bool a0_3, .int .i64 a0_4, .int .i64 a0_5, .int .i64 a0_6, .bool a0_7, .int .u64 a0_8, .int .u64 a0_9, .bool a0_10, .int .u64 a0_11, .int .u64 a0_12, .string a0_13, .string a0_14] 26 (0, 0)) (by (with_reducible repeat (first | refine blk_drewN ?_ _ | refine blk_drew ?_ | refine blk_alloc ?_ _)); exact BK398.out)) : gb418 ≠ gb398)); clear BK398; clear HB; have BK398 := n0_; have HB := n1_; have BK418 := n2_; have GW418 := n3_; have GE418 := n4_; have NB398_418 := n5_; have NB418_398 := n6_; clear n0_ n1_ n2_ n3_ n4_ n5_ n6_; clear hb hbox hg; have hnb28 := NB418_398.out; have hnc28 := NB398_418.out; obtain ⟨hcz29_0, hcz29_1, hcz29_2, hcz29_3, hcz29_4, hcz29_5, hcz29_6, hcz29_7, hcz29_8, hcz29_9, hcz29_10, hcz29_11, hcz29_12, hcz29_13, hcz29_14⟩ := MBlk.c15 BK418.out; obtain ⟨hfz29_0, hfz29_1, hfz29_2, hfz29_3, hfz29_4, hfz29_5, hfz29_6, hfz29_7, hfz29_8, hfz29_9, hfz29_10, hfz29_11, hfz29_12, hfz29_13, hfz29_14⟩ := MBlk.f15 BK418.out) | ((with_reducible refine gate_callee (f := 11) rfl ?_); refine goesL_ (some 53) rfl rfl Try.func11 (by kernel_rfl) rfl #[.string (t400.extract 0 ((ji18) : Int).toNat)] rfl (by (try simp only [List.map_toArray, List.map_cons, List.map_nil]); first | done | (simp only [hji18]; rfl) | rfl | (simp only [List.length_drop, List.length_take]; rfl)) ?_; (with_reducible refine (ip4_Take.calls kj5 (t400.extract 0 ((ji18) : Int).toNat) t419 t420 t421 t422 t423 t424 t425 t426 t427 t428 t429 t430 t431 t432 t433 t434 _ A21.out).mono ?_); rintro e w30 ⟨rfl, hb⟩; refine ⟨_, rfl, ?_⟩; have n0_ := Aside0.mk (blk_below (g := gb398) (o := .cells #[.int .i64 a0_0, .int .i64 a0_1, .bool a0_2, .bool a0_3, .int .i64 a0_4, .int .i64 a0_5, .int .i64 a0_6, .bool a0_7, .int .u64 a0_8, .int .u64 a0_9, .bool a0_10, .int .u64 a0_11, .int .u64 a0_12, .string a0_13, .string a0_14] 26 (0, 0)) (by (with_reducible repeat (first | refine blk_drewN ?_ _ | refine blk_drew ?_ | refine blk_alloc ?_ _)); refine blk_far ?_ NB398_418.out _; (with_reducible repeat (first | refine blk_drewN ?_ _ | refine blk_drew ?_ | refine blk_alloc ?_ _)); refine blk_far ?_ NB398_418.out _; (with_reducible repeat (first | refine blk_drewN ?_ _ | refine blk_drew ?_ | refine blk_alloc ?_ _)); refine blk_far ?_ NB398_418.out _; (with_reducible repeat (first | refine blk_drewN ?_ _ | refine blk_drew ?_ | refine blk_alloc ?_ _)); refine blk_far ?_ NB398_418.out _; (with_reducible repeat (first | refine blk_drewN ?_ _ | refine blk_drew ?_ | refine blk_alloc ?_ _)); refine blk_far ?_ NB398_418.out _; (with_reducible repeat (first | refine blk_drewN ?_ _ | refine blk_drew ?_ | refine blk_alloc ?_ _)); refine blk_far ?_ NB398_418.out _; (with_reducible repeat (first | refine blk_drewN ?_ _ | refine blk_drew ?_ | refine blk_alloc ?_ _)); refine blk_far ?_ NB398_418.out _; (with_reducible repeat (first | refine blk_drewN ?_ _ | refine blk_drew ?_ | refine blk_alloc ?_ _)); refine blk_far ?_ NB398_418.out _; (with_reducible repeat (first | refine blk_drewN ?_ _ | refine blk_drew ?_ | refine blk_alloc ?_ _)); refine blk_far ?_ NB398_418.out _; (with_reducible repeat (first | refine blk_drewN ?_ _ | refine blk_drew ?_ | refine blk_alloc ?_ _)); refine blk_far ?_ NB398_418.out _; (with_reducible repeat (first | refine blk_drewN ?_ _ | refine blk_drew ?_ | refine blk_alloc ?_ _)); refine blk_far ?_ NB398_418.out _; (with_reducible repeat (first | refine blk_drewN ?_ _ | refine blk_drew ?_ | refine blk_alloc ?_ _)); refine blk_far ?_ NB398_418.out _; (with_reducible repeat (first | refine blk_drewN ?_ _ | refine blk_drew ?_ | refine blk_alloc ?_ _)); refine blk_far ?_ NB398_418.out _; (with_reducible repeat (first | refine blk_drewN ?_ _ | refine blk_drew ?_ | refine blk_alloc ?_ _)); refine blk_far ?_ NB398_418.out _; (with_reducible repeat (first | refine blk_drewN ?_ _ | refine blk_drew ?_ | refine blk_alloc ?_ _)); refine blk_far ?_ NB398_418.out _; (with_reducible repeat (first | refine blk_drewN ?_ _ | refine blk_drew ?_ | refine blk_alloc ?_ _)); exact BK398.out) hb); have n1_ := Aside0.mk (blk_below (g := gb418) (o := .cells #[.int .i64 t402, .int .i64 t403, .bool t404, .bool t405, .int .i64 t406, .int .i64 t407, .int .i64 t408, .bool t409, .int .u64 t410, .int .u64 t411, .bool t412, .int .u64 t413, .int .u64 t414, .string t415, .string t416] 26 (0, 0)) (by (with_reducible repeat (first | refine blk_drewN ?_ _ | refine blk_drew ?_ | refine blk_alloc ?_ _)); refine blk_put (cs := #[.int .i64 t402, .int .i64 t403, .bool t404, .bool t405, .int .i64 t406, .int .i64 t407, .int .i64 t408, .bool t409, .int .u64 t410, .int .u64 t411, .bool t412, .int .u64 t413, .int .u64 t414, .string t415, .string (⟨#[]⟩ : ByteArray)]) ?_ 14 _ rfl; (with_reducible repeat (first | refine blk_drewN ?_ _ | refine blk_drew ?_ | refine blk_alloc ?_ _)); refine blk_put (cs := #[.int .i64 t402, .int .i64 t403, .bool t404, .bool t405, .int .i64 t406, .int .i64 t407, .int .i64 t408, .bool t409, .int .u64 t410, .int .u64 t411, .bool t412, .int .u64 t413, .int .u64 t414, .string (⟨#[]⟩ : ByteArray), .string (⟨#[]⟩ : ByteArray)]) ?_ 13 _ rfl; (with_reducible repeat (first | refine blk_drewN ?_ _ | refine blk_drew ?_ | refine blk_alloc ?_ _)); refine blk_put (cs := #[.int .i64 t402, .int .i64 t403, .bool t404, .bool t405, .int .i64 t406, .int .i64 t407, .int .i64 t408, .bool t409, .int .u64 t410, .int .u64 t411, .bool t412, .int .u64 t413, .int .u64 0, .string (⟨#[]⟩ : ByteArray), .string (⟨#[]⟩ : ByteArray)]) ?_ 12 _ rfl; (with_reducible repeat (first | refine blk_drewN ?_ _ | refine blk_drew ?_ | refine blk_alloc ?_ _)); refine blk_put (cs := #[.int .i64 t402, .int .i64 t403, .bool t404, .bool t405, .int .i64 t406, .int .i64 t407, .int .i64 t408, .bool t409, .int .u64 t410, .int .u64 t411, .bool t412, .int .u64 0, .int .u64 0, .string (⟨#[]⟩ : ByteArray), .string (⟨#[]⟩ : ByteArray)]) ?_ 11 _ rfl; (with_reducible repeat (first | refine blk_drewN ?_ _ | refine blk_drew ?_ | refine blk_alloc ?_ _)); refine blk_put (cs := #[.int .i64 t402, .int .i64 t403, .bool t404, .bool t405, .int .i64 t406, .int .i64 t407, .int .i64 t408, .bool t409, .int .u64 t410, .int .u64 t411, .bool false, .int .u64 0, .int .u64 0, .string (⟨#[]⟩ : ByteArray), .string (⟨#[]⟩ : ByteArray)]) ?_ 10 _ rfl; (with_reducible repeat (first | refine blk_drewN ?_ _ | refine blk_drew ?_ | refine blk_alloc ?_ _)); refine blk_put (cs := #[.int .i64 t402, .int .i64 t403, .bool t404, .bool t405, .int .i64 t406, .int .i64 t407, .int .i64 t408, .bool t409, .int .u64 t410, .int .u64 0, .bool false, .int .u64 0, .int .u64 0, .string (⟨#[]⟩ : ByteArray), .string (⟨#[]⟩ : ByteArray)]) ?_ 9 _ rfl; (with_reducible repeat (first | refine blk_drewN ?_ _ | refine blk_drew ?_ | refine blk_alloc ?_ _)); refine blk_put (cs := #[.int .i64 t402, .int .i64 t403, .bool t404, .bool t405, .int .i64 t406, .int .i64 t407, .int .i64 t408, .bool t409, .int .u64 0, .int .u64 0, .bool false, .int .u64 0, .int .u64 0, .string (⟨#[]⟩ : ByteArray), .string (⟨#[]⟩ : ByteArray)]) ?_ 8 _ rfl; (with_reducible repeat (first | refine blk_drewN ?_ _ | refine blk_drew ?_ | refine blk_alloc ?_ _)); refine blk_put (cs := #[.int .i64 t402, .int .i64 t403, .bool t404, .bool t405, .int .i64 t406, .int .i64 t407, .int .i64 t408, .bool false, .int .u64 0, .int .u64 0, .bool false, .int .u64 0, .int .u64 0, .string (⟨#[]⟩ : ByteArray), .string (⟨#[]⟩ : ByteArray)]) ?_ 7 _ rfl; (with_reducible repeat (first | refine blk_drewN ?_ _ | refine blk_drew ?_ | refine blk_alloc ?_ _)); refine blk_put (cs := #[.int .i64 t402, .int .i64 t403, .bool t404, .bool t405, .int .i64 t406, .int .i64 t407, .int .i64 0, .bool false, .int .u64 0, .int .u64 0, .bool false, .int .u64 0, .int .u64 0, .string (⟨#[]⟩ : ByteArray), .string (⟨#[]⟩ : ByteArray)]) ?_ 6 _ rfl; (with_reducible repeat (first | refine blk_drewN ?_ _ | refine blk_drew ?_ | refine blk_alloc ?_ _)); refine blk_put (cs := #[.int .i64 t402, .int .i64 t403, .bool t404, .bool t405, .int .i64 t406, .int .i64 0, .int .i64 0, .bool false, .int .u64 0, .int .u64 0, .bool false, .int .u64 0, .int .u64 0, .string (⟨#[]⟩ : ByteArray), .string (⟨#[]⟩ : ByteArray)]) ?_ 5 _ rfl; (with_reducible repeat (first | refine blk_drewN ?_ _ | refine blk_drew ?_ | refine blk_alloc ?_ _)); refine blk_put (cs := #[.int .i64 t402, .int .i64 t403, .bool t404, .bool t405, .int .i64 0, .int .i64 0, .int .i64 0, .bool false, .int .u64 0, .int .u64 0, .bool false, .int .u64 0, .int .u64 0, .string (⟨#[]⟩ : ByteArray), .string (⟨#[]⟩ : ByteArray)]) ?_ 4 _ rfl; (with_reducible repeat (first | refine blk_drewN ?_ _ | refine blk_drew ?_ | refine blk_alloc ?_ _)); refine blk_put (cs := #[.int .i64 t402, .int .i64 t403, .bool t404, .bool false, .int .i64 0, .int .i64 0, .int .i64 0, .bool false, .int .u64 0, .int .u64 0, .bool false, .int .u64 0, .int .u64 0, .string (⟨#[]⟩ : ByteArray), .string (⟨#[]⟩ : ByteArray)]) ?_ 3 _ rfl; (with_reducible repeat (first | refine blk_drewN ?_ _ | refine blk_drew ?_ | refine blk_alloc ?_ _)); refine blk_put (cs := #[.int .i64 t402, .int .i64 t403, .bool false, .bool false, .int .i64 0, .int .i64 0, .int .i64 0, .bool false, .int .u64 0, .int .u64 0, .bool false, .int .u64 0, .int .u64 0, .string (⟨#[]⟩ : ByteArray), .string (⟨#[]⟩ : ByteArray)]) ?_ 2 _ rfl; (with_reducible repeat (first | refine blk_drewN ?_ _ | refine blk_drew ?_ | refine blk_alloc ?_ _)); refine blk_put (cs := #[.int .i64 t402, .int .i64 0, .bool false, .bool false, .int .i64 0, .int .i64 0, .int .i64 0, .bool false, .int .u64 0, .int .u64 0, .bool false, .int .u64 0, .int .u64 0, .string (⟨#[]⟩ : ByteArray), .string (⟨#[]⟩ : ByteArray)]) ?_ 1 _ rfl; (with_reducible repeat (first | refine blk_drewN ?_ _ | refine blk_drew ?_ | refine blk_alloc ?_ _)); refine blk_put (cs := #[.int .i64 0, .int .i64 0, .bool false, .bool false, .int .i64 0, .int .i64 0, .int .i64 0, .bool false, .int .u64 0, .int .u64 0, .bool false, .int .u64 0, .int .u64 0, .string (⟨#[]⟩ : ByteArray), .string (⟨#[]⟩ : ByteArray)]) ?_ 0 _ rfl; (with_reducible repeat (first | refine blk_drewN ?_ _ | refine blk_drew ?_ | refine blk_alloc ?_ _)); exact BK418.out) hb); have n2_ := Aside0.mk (below_step (by repeat (first | (with_reducible first | exact HB.out | apply below_alloc | apply pw_below_drewN | apply below_drew1 | refine below_set ?_ GE398.out | refine below_set ?_ GE418.out) | exact HB.out)) hb); clear BK398; clear BK418; clear HB; have BK398 := n0_; have BK418 := n1_; have HB := n2_; clear n0_ n1_ n2_; (try clear hb); (try clear hb2); (try clear hk); (try clear hi)) | ((with_reducible refine gate_dst (N := 12) rfl ?_); refine box_event ?hg (N := 12) ?hd (cs := #[.int .i64 0, .int .i64 0, .bool false, .bool false, .int .i64 0, .int .i64 0, .int .i64 0, .bool false, .int .u64 0, .int .u64 0, .bool false, .int .u64 0, .int .u64 0, .string (⟨#[]⟩ : ByteArray), .string (⟨#[]⟩ : ByteArray)]) (t := 26) ?hr ?_; (case hd => rfl); (case hg => rfl); (case hr => first | (go_simp; done) | (go_simp; rfl)); intro gb435 hg w31 hbox hb; have n0_ := Aside0.mk (blk_below (g := gb398) (o := .cells #[.int .i64 a0_0, .int .i64 a0_1, .bool a0_2, .bool a0_3, .int .i64 a0_4, .int .i64 a0_5, .int .i64 a0_6, .bool a0_7, .int .u64 a0_8, .int .u64 a0_9, .bool a0_10, .int .u64 a0_11, .int .u64 a0_12, .string a0_13, .string a0_14] 26 (0, 0)) (by (with_reducible repeat (first | refine blk_drewN ?_ _ | refine blk_drew ?_ | refine blk_alloc ?_ _)); exact BK398.out) hb); have n1_ := Aside0.mk (blk_below (g := gb418) (o := .cells #[.int .i64 t402, .int .i64 t403, .bool t404, .bool t405, .int .i64 t406, .int .i64 t407, .int .i64 t408, .bool t409, .int .u64 t410, .int .u64 t411, .bool t412, .int .u64 t413, .int .u64 t414, .string t415, .string t416] 26 (0, 0)) (by (with_reducible repeat (first | refine blk_drewN ?_ _ | refine blk_drew ?_ | refine blk_alloc ?_ _)); exact BK418.out) hb); have n2_ := Aside0.mk (below_step (by repeat (first | (with_reducible first | exact HB.out | apply below_alloc | apply pw_below_drewN | apply below_drew1 | refine below_set ?_ GE398.out | refine below_set ?_ GE418.out) | exact HB.out)) hb); have n3_ := Aside0.mk (hbox); have n4_ := Aside0.mk ((by rw [hg]; exact (below_size (by repeat (first | (with_reducible first | exact HB.out | apply below_alloc | apply pw_below_drewN | apply below_drew1 | refine below_set ?_ GE398.out | refine below_set ?_ GE418.out) | exact HB.out))) : w.heap.size ≤ gb435)); have n5_ := Aside0.mk ((by rw [hg]; exact (below_size (by repeat (first | (with_reducible first | exact HB.out | apply below_alloc | apply pw_below_drewN | apply below_drew1 | refine below_set ?_ GE398.out | refine below_set ?_ GE418.out) | exact HB.out))) : w.heap.size ≤ gb435)); have n6_ := Aside0.mk ((by rw [hg]; exact Nat.ne_of_lt (blk_lt (g := gb398) (o := .cells #[.int .i64 a0_0, .int .i64 a0_1, .bool a0_2, .bool a0_3, .int .i64 a0_4, .int .i64 a0_5, .int .i64 a0_6, .bool a0_7, .int .u64 a0_8, .int .u64 a0_9, .bool a0_10, .int .u64 a0_11, .int .u64 a0_12, .string a0_13, .string a0_14] 26 (0, 0)) (by (with_reducible repeat (first | refine blk_drewN ?_ _ | refine blk_drew ?_ | refine blk_alloc ?_ _)); exact BK398.out)) : gb398 ≠ gb435)); have n7_ := Aside0.mk ((by rw [hg]; exact Nat.ne_of_gt (blk_lt (g := gb398) (o := .cells #[.int .i64 a0_0, .int .i64 a0_1, .bool a0_2, .bool a0_3, .int .i64 a0_4, .int .i64 a0_5, .int .i64 a0_6, .bool a0_7, .int .u64 a0_8, .int .u64 a0_9, .bool a0_10, .int .u64 a0_11, .int .u64 a0_12, .string a0_13, .string a0_14] 26 (0, 0)) (by (with_reducible repeat (first | refine blk_drewN ?_ _ | refine blk_drew ?_ | refine blk_alloc ?_ _)); exact BK398.out)) : gb435 ≠ gb398)); have n8_ := Aside0.mk ((by rw [hg]; exact Nat.ne_of_lt (blk_lt (g := gb418) (o := .cells #[.int .i64 t402, .int .i64 t403, .bool t404, .bool t405, .int .i64 t406, .int .i64 t407, .int .i64 t408, .bool t409, .int .u64 t410, .int .u64 t411, .bool t412, .int .u64 t413, .int .u64 t414, .string t415, .string t416] 26 (0, 0)) (by (with_reducible repeat (first | refine blk_drewN ?_ _ | refine blk_drew ?_ | refine blk_alloc ?_ _)); exact BK418.out)) : gb418 ≠ gb435)); have n9_ := Aside0.mk ((by rw [hg]; exact Nat.ne_of_gt (blk_lt (g := gb418) (o := .cells #[.int .i64 t402, .int .i64 t403, .bool t404, .bool t405, .int .i64 t406, .int .i64 t407, .int .i64 t408, .bool t409, .int .u64 t410, .int .u64 t411, .bool t412, .int .u64 t413, .int .u64 t414, .string t415, .string t416] 26 (0, 0)) (by (with_reducible repeat (first | refine blk_drewN ?_ _ | refine blk_drew ?_ | refine blk_alloc ?_ _)); exact BK418.out)) : gb435 ≠ gb418)); clear BK398; clear BK418; clear HB; have BK398 := n0_; have BK418 := n1_; have HB := n2_; have BK435 := n3_; have GW435 := n4_; have GE435 := n5_; have NB398_435 := n6_; have NB435_398 := n7_; have NB418_435 := n8_; have NB435_418 := n9_; clear n0_ n1_ n2_ n3_ n4_ n5_ n6_ n7_ n8_ n9_; clear hb hbox hg; have hnb32 := NB435_398.out; have hnc32 := NB398_435.out; have hnb33 := NB435_418.out; have hnc33 := NB418_435.out; obtain ⟨hcz34_0, hcz34_1, hcz34_2, hcz34_3, hcz34_4, hcz34_5, hcz34_6, hcz34_7, hcz34_8, hcz34_9, hcz34_10, hcz34_11, hcz34_12, hcz34_13, hcz34_14⟩ := MBlk.c15 BK435.out; obtain ⟨hfz34_0, hfz34_1, hfz34_2, hfz34_3, hfz34_4, hfz34_5, hfz34_6, hfz34_7, hfz34_8, hfz34_9, hfz34_10, hfz34_11, hfz34_12, hfz34_13, hfz34_14⟩ := MBlk.f15 BK435.out; obtain ⟨hcz35_0, hcz35_1, hcz35_2, hcz35_3, hcz35_4, hcz35_5, hcz35_6, hcz35_7, hcz35_8, hcz35_9, hcz35_10, hcz35_11, hcz35_12, hcz35_13, hcz35_14⟩ := MBlk.c15 BK418.out; obtain ⟨hfz35_0, hfz35_1, hfz35_2, hfz35_3, hfz35_4, hfz35_5, hfz35_6, hfz35_7, hfz35_8, hfz35_9, hfz35_10, hfz35_11, hfz35_12, hfz35_13, hfz35_14⟩ := MBlk.f15 BK418.out; obtain ⟨hcz36_0, hcz36_1, hcz36_2, hcz36_3, hcz36_4, hcz36_5, hcz36_6, hcz36_7, hcz36_8, hcz36_9, hcz36_10, hcz36_11, hcz36_12, hcz36_13, hcz36_14⟩ := MBlk.c15 BK398.out; obtain ⟨hfz36_0, hfz36_1, hfz36_2, hfz36_3, hfz36_4, hfz36_5, hfz36_6, hfz36_7, hfz36_8, hfz36_9, hfz36_10, hfz36_11, hfz36_12, hfz36_13, hfz36_14⟩ := MBlk.f15 BK398.out))
            go_ret
            exact ⟨by first | rfl | (simp [errW_none, errW_some] <;> rfl) | (simp only [← hji18]; first | rfl | (simp [errW_none, errW_some] <;> rfl)) | (simp [*, errW_none, errW_some] <;> rfl), by repeat (first | (with_reducible first | exact HB.out | apply below_alloc | apply pw_below_drewN | apply below_drew1 | refine below_set ?_ GE398.out | refine below_set ?_ GE418.out | refine below_set ?_ GE435.out) | exact HB.out)⟩
           ·
            rw [if_neg c23] at H
            have c23b0 : (t402 == a0_0 && (t403 == a0_1 && (t404 == a0_2 && (t405 == a0_3 && (t406 == a0_4 && (t407 == a0_5 && (t408 == a0_6 && ((t409 == a0_7 && (t410 == a0_8 && (t411 == a0_9))) && ((t412 == a0_10 && (t413 == a0_11 && (t414 == a0_12))) && (t415.toList == a0_13.toList && (t416.toList == a0_14.toList))))))))))) = false := by simpa using c23
            (try (have c23b1 : decide (t402 = a0_0 && (t403 == a0_1 && (t404 == a0_2 && (t405 == a0_3 && (t406 == a0_4 && (t407 == a0_5 && (t408 == a0_6 && ((t409 == a0_7 && (t410 == a0_8 && (t411 == a0_9))) && ((t412 == a0_10 && (t413 == a0_11 && (t414 == a0_12))) && (t415.toList == a0_13.toList && (t416.toList == a0_14.toList))))))))))) = false := by simpa using c23))
            (try (have c23b2 : (t402 == a0_0 && (t403 == a0_1 && (t404 == a0_2 && (t405 == a0_3 && (t406 == a0_4 && (t407 == a0_5 && (t408 == a0_6 && ((t409 == a0_7 && (t410 == a0_8 && (t411 == a0_9))) && ((t412 == a0_10 && (t413 == a0_11 && (t414 == a0_12))) && (t415.toList == a0_13.toList && (t416.toList == a0_14.toList))))))))))) = false := by simpa using c23))
            (try (have c23b3 : ¬ (t402 = a0_0 && (t403 == a0_1 && (t404 == a0_2 && (t405 == a0_3 && (t406 == a0_4 && (t407 == a0_5 && (t408 == a0_6 && ((t409 == a0_7 && (t410 == a0_8 && (t411 == a0_9))) && ((t412 == a0_10 && (t413 == a0_11 && (t414 == a0_12))) && (t415.toList == a0_13.toList && (t416.toList == a0_14.toList))))))))))) := by simpa using c23))
            clear c23
            exact absurd ((Option.some.inj H).trans HRT.out) (by decide)
          ·
           rw [if_neg c22] at H
           have c22b0 : (t417 == 0) = false := beq_eq_false_iff_ne.mpr c22
           have c22b1 : (t417 != 0) = true := bne_iff_ne.mpr c22
           exact absurd ((Option.some.inj H).trans HRT.out) (by decide)
         ·
          rw [if_neg c20] at H
          exact absurd H (by simp)
        ·
         rw [if_neg c19] at H
         exact absurd H (by simp)
      ·
       rw [if_neg c16] at H
       have c16b0 : decide (a2 < 0) = false := decide_eq_false c16
       clear c16
       by_cases c37 : (t400.size : Int) = 0
       ·
        rw [if_pos c37] at H
        exact absurd H (by simp)
       ·
        rw [if_neg c37] at H
        have c37b0 : ((t400.size : Int) == 0) = false := beq_eq_false_iff_ne.mpr c37
        have c37b1 : ((t400.size : Int) != 0) = true := bne_iff_ne.mpr c37
        obtain ⟨ji38, hji38⟩ : ∃ j_ : Int, (Int.tmod a2 (t400.size : Int)) = j_ := ⟨_, rfl⟩
        replace H : (if 0 ≤ (ji38) then (if (ji38) ≤ (t400.size : Int) then ((ip4_Take.f kj5 (t400.extract 0 ((ji38) : Int).toNat)).bind fun bt436 => (if true = true then (if t417 = 0 then (if (t402 == a0_0 && (t403 == a0_1 && (t404 == a0_2 && (t405 == a0_3 && (t406 == a0_4 && (t407 == a0_5 && (t408 == a0_6 && ((t409 == a0_7 && (t410 == a0_8 && (t411 == a0_9))) && ((t412 == a0_10 && (t413 == a0_11 && (t414 == a0_12))) && (t415.toList == a0_13.toList && (t416.toList == a0_14.toList))))))))))) = true then (some (bt436.2.2.2.2.2.2.2.2.2.2.2.2.2.2.2 != 0)) else (some false)) else (some false)) else (some false))) else (none)) else (none)) = some r := by first | (rw [hji38] at H; exact H) | (simp only [hji38] at H ⊢; exact H)
        (try rw [hji38] at A12)
        (try rw [hji38] at A15)
        by_cases c39 : 0 ≤ (ji38)
        ·
         rw [if_pos c39] at H
         have c39b0 := eq_true c39
         have c39b1 : decide (0 ≤ (ji38)) = true := decide_eq_true c39
         clear c39
         by_cases c40 : (ji38) ≤ (t400.size : Int)
         ·
          rw [if_pos c40] at H
          have c40b0 := eq_true c40
          have c40b1 : decide ((ji38) ≤ (t400.size : Int)) = true := decide_eq_true c40
          clear c40
          replace H := Option.bind_eq_some_iff.mp H
          obtain ⟨⟨t436, t437, t438, t439, t440, t441, t442, t443, t444, t445, t446, t447, t448, t449, t450, t451⟩, A410, H⟩ := H
          replace H : (if true = true then (if t417 = 0 then (if (t402 == a0_0 && (t403 == a0_1 && (t404 == a0_2 && (t405 == a0_3 && (t406 == a0_4 && (t407 == a0_5 && (t408 == a0_6 && ((t409 == a0_7 && (t410 == a0_8 && (t411 == a0_9))) && ((t412 == a0_10 && (t413 == a0_11 && (t414 == a0_12))) && (t415.toList == a0_13.toList && (t416.toList == a0_14.toList))))))))))) = true then (some (t451 != 0)) else (some false)) else (some false)) else (some false)) = some r := H
          have A41 := Aside0.mk A410
          clear A410
          have H1 : (if t417 = 0 then (if (t402 == a0_0 && (t403 == a0_1 && (t404 == a0_2 && (t405 == a0_3 && (t406 == a0_4 && (t407 == a0_5 && (t408 == a0_6 && ((t409 == a0_7 && (t410 == a0_8 && (t411 == a0_9))) && ((t412 == a0_10 && (t413 == a0_11 && (t414 == a0_12))) && (t415.toList == a0_13.toList && (t416.toList == a0_14.toList))))))))))) = true then (some (t451 != 0)) else (some false)) else (some false)) = some r := by rw [if_pos rfl] at H; exact H
          clear H
          have H := H1
          clear H1
          by_cases c42 : t417 = 0
          ·
           rw [if_pos c42] at H
           have c42b0 : (t417 == 0) = true := beq_iff_eq.mpr c42
           have c42b1 : (t417 != 0) = false := bne_eq_false_iff_eq.mpr c42
           clear c42
           by_cases c43 : (t402 == a0_0 && (t403 == a0_1 && (t404 == a0_2 && (t405 == a0_3 && (t406 == a0_4 && (t407 == a0_5 && (t408 == a0_6 && ((t409 == a0_7 && (t410 == a0_8 && (t411 == a0_9))) && ((t412 == a0_10 && (t413 == a0_11 && (t414 == a0_12))) && (t415.toList == a0_13.toList && (t416.toList == a0_14.toList))))))))))) = true
           ·
            rw [if_pos c43] at H
            have c43b0 : (t402 == a0_0 && (t403 == a0_1 && (t404 == a0_2 && (t405 == a0_3 && (t406 == a0_4 && (t407 == a0_5 && (t408 == a0_6 && ((t409 == a0_7 && (t410 == a0_8 && (t411 == a0_9))) && ((t412 == a0_10 && (t413 == a0_11 && (t414 == a0_12))) && (t415.toList == a0_13.toList && (t416.toList == a0_14.toList))))))))))) = true := c43
            (try (have c43b1 : decide (t402 = a0_0 && (t403 == a0_1 && (t404 == a0_2 && (t405 == a0_3 && (t406 == a0_4 && (t407 == a0_5 && (t408 == a0_6 && ((t409 == a0_7 && (t410 == a0_8 && (t411 == a0_9))) && ((t412 == a0_10 && (t413 == a0_11 && (t414 == a0_12))) && (t415.toList == a0_13.toList && (t416.toList == a0_14.toList))))))))))) = true := by simpa using c43))
            (try (have c43b2 : (t402 == a0_0 && (t403 == a0_1 && (t404 == a0_2 && (t405 == a0_3 && (t406 == a0_4 && (t407 == a0_5 && (t408 == a0_6 && ((t409 == a0_7 && (t410 == a0_8 && (t411 == a0_9))) && ((t412 == a0_10 && (t413 == a0_11 && (t414 == a0_12))) && (t415.toList == a0_13.toList && (t416.toList == a0_14.toList))))))))))) = true := by simpa using c43))
            clear c43
            obtain rfl := Option.some.inj H
            have hcz44_0 : wc.cell? ⟨gb398, 0, none⟩ = some (.int .i64 a0_0) := (blk_cell BK398.out 0).trans rfl
            have hcz44_1 : wc.cell? ⟨gb398, 1, none⟩ = some (.int .i64 a0_1) := (blk_cell BK398.out 1).trans rfl
            have hcz44_2 : wc.cell? ⟨gb398, 2, none⟩ = some (.bool a0_2) := (blk_cell BK398.out 2).trans rfl
            have hcz44_3 : wc.cell? ⟨gb398, 3, none⟩ = some (.bool a0_3) := (blk_cell BK398.out 3).trans rfl
            have hcz44_4 : wc.cell? ⟨gb398, 4, none⟩ = some (.int .i64 a0_4) := (blk_cell BK398.out 4).trans rfl
            have hcz44_5 : wc.cell? ⟨gb398, 5, none⟩ = some (.int .i64 a0_5) := (blk_cell BK398.out 5).trans rfl
            have hcz44_6 : wc.cell? ⟨gb398, 6, none⟩ = some (.int .i64 a0_6) := (blk_cell BK398.out 6).trans rfl
            have hcz44_7 : wc.cell? ⟨gb398, 7, none⟩ = some (.bool a0_7) := (blk_cell BK398.out 7).trans rfl
            have hcz44_8 : wc.cell? ⟨gb398, 8, none⟩ = some (.int .u64 a0_8) := (blk_cell BK398.out 8).trans rfl
            have hcz44_9 : wc.cell? ⟨gb398, 9, none⟩ = some (.int .u64 a0_9) := (blk_cell BK398.out 9).trans rfl
            have hcz44_10 : wc.cell? ⟨gb398, 10, none⟩ = some (.bool a0_10) := (blk_cell BK398.out 10).trans rfl
            have hcz44_11 : wc.cell? ⟨gb398, 11, none⟩ = some (.int .u64 a0_11) := (blk_cell BK398.out 11).trans rfl
            have hcz44_12 : wc.cell? ⟨gb398, 12, none⟩ = some (.int .u64 a0_12) := (blk_cell BK398.out 12).trans rfl
            have hcz44_13 : wc.cell? ⟨gb398, 13, none⟩ = some (.string a0_13) := (blk_cell BK398.out 13).trans rfl
            have hcz44_14 : wc.cell? ⟨gb398, 14, none⟩ = some (.string a0_14) := (blk_cell BK398.out 14).trans rfl
            have hfz44_0 := blk_frozen BK398.out 0
            have hfz44_1 := blk_frozen BK398.out 1
            have hfz44_2 := blk_frozen BK398.out 2
            have hfz44_3 := blk_frozen BK398.out 3
            have hfz44_4 := blk_frozen BK398.out 4
            have hfz44_5 := blk_frozen BK398.out 5
            have hfz44_6 := blk_frozen BK398.out 6
            have hfz44_7 := blk_frozen BK398.out 7
            have hfz44_8 := blk_frozen BK398.out 8
            have hfz44_9 := blk_frozen BK398.out 9
            have hfz44_10 := blk_frozen BK398.out 10
            have hfz44_11 := blk_frozen BK398.out 11
            have hfz44_12 := blk_frozen BK398.out 12
            have hfz44_13 := blk_frozen BK398.out 13
            have hfz44_14 := blk_frozen BK398.out 14
            go_wp2_with (first | ((with_reducible refine gate_callee (f := 9) rfl ?_); refine goesL_ (some 24) rfl rfl Try.func9 (by kernel_rfl) rfl #[.agg #[.int .i64 a0_0, .int .i64 a0_1, .bool a0_2, .bool a0_3, .int .i64 a0_4, .int .i64 a0_5, .int .i64 a0_6, .bool a0_7, .int .u64 a0_8, .int .u64 a0_9, .bool a0_10, .int .u64 a0_11, .int .u64 a0_12, .string a0_13, .string a0_14]] rfl (by (try simp only [List.map_toArray, List.map_cons, List.map_nil]); first | done | rfl | (simp only [List.length_drop, List.length_take]; rfl)) ?_; (with_reducible refine (ip4_Lay.calls kj5 a0_0 a0_1 a0_2 a0_3 a0_4 a0_5 a0_6 a0_7 a0_8 a0_9 a0_10 a0_11 a0_12 a0_13 a0_14 t400 t401 _ A12.out).mono ?_); rintro e w45 ⟨rfl, hb⟩; refine ⟨_, rfl, ?_⟩; have n0_ := Aside0.mk (blk_below (g := gb398) (o := .cells #[.int .i64 a0_0, .int .i64 a0_1, .bool a0_2, .bool a0_3, .int .i64 a0_4, .int .i64 a0_5, .int .i64 a0_6, .bool a0_7, .int .u64 a0_8, .int .u64 a0_9, .bool a0_10, .int .u64 a0_11, .int .u64 a0_12, .string a0_13, .string a0_14] 26 (0, 0)) (by (with_reducible repeat (first | refine blk_drewN ?_ _ | refine blk_drew ?_ | refine blk_alloc ?_ _)); exact BK398.out) hb); have n1_ := Aside0.mk (below_step (by repeat (first | (with_reducible first | exact HB.out | apply below_alloc | apply pw_below_drewN | apply below_drew1 | refine below_set ?_ GE398.out) | exact HB.out)) hb); clear BK398; clear HB; have BK398 := n0_; have HB := n1_; clear n0_ n1_; (try clear hb); (try clear hb2); (try clear hk); (try clear hi)) | ((with_reducible refine gate_callee (f := 11) rfl ?_); refine goesL_ (some 38) rfl rfl Try.func11 (by kernel_rfl) rfl #[.string (t400 ++ x1_5)] rfl (by (try simp only [List.map_toArray, List.map_cons, List.map_nil]); first | done | rfl | (simp only [List.length_drop, List.length_take]; rfl)) ?_; (with_reducible refine (ip4_Take.calls kj5 (t400 ++ x1_5) t402 t403 t404 t405 t406 t407 t408 t409 t410 t411 t412 t413 t414 t415 t416 t417 _ A15.out).mono ?_); rintro e w46 ⟨rfl, hb⟩; refine ⟨_, rfl, ?_⟩; have n0_ := Aside0.mk (blk_below (g := gb398) (o := .cells #[.int .i64 a0_0, .int .i64 a0_1, .bool a0_2, .bool a0_3, .int .i64 a0_4, .int .i64 a0_5, .int .i64 a0_6, .bool a0_7, .int .u64 a0_8, .int .u64 a0_9, .bool a0_10, .int .u64 a0_11, .int .u64 a0_12, .string a0_13, .string a0_14] 26 (0, 0)) (by (with_reducible repeat (first | refine blk_drewN ?_ _ | refine blk_drew ?_ | refine blk_alloc ?_ _)); exact BK398.out) hb); have n1_ := Aside0.mk (below_step (by repeat (first | (with_reducible first | exact HB.out | apply below_alloc | apply pw_below_drewN | apply below_drew1 | refine below_set ?_ GE398.out) | exact HB.out)) hb); clear BK398; clear HB; have BK398 := n0_; have HB := n1_; clear n0_ n1_; (try clear hb); (try clear hb2); (try clear hk); (try clear hi)) | ((with_reducible refine gate_dst (N := 10) rfl ?_); refine box_event ?hg (N := 10) ?hd (cs := #[.int .i64 0, .int .i64 0, .bool false, .bool false, .int .i64 0, .int .i64 0, .int .i64 0, .bool false, .int .u64 0, .int .u64 0, .bool false, .int .u64 0, .int .u64 0, .string (⟨#[]⟩ : ByteArray), .string (⟨#[]⟩ : ByteArray)]) (t := 26) ?hr ?_; (case hd => rfl); (case hg => rfl); (case hr => first | (go_simp; done) | (go_simp; rfl)); intro gb418 hg w47 hbox hb; have n0_ := Aside0.mk (blk_below (g := gb398) (o := .cells #[.int .i64 a0_0, .int .i64 a0_1, .bool a0_2, .bool a0_3, .int .i64 a0_4, .int .i64 a0_5, .int .i64 a0_6, .bool a0_7, .int .u64 a0_8, .int .u64 a0_9, .bool a0_10, .int .u64 a0_11, .int .u64 a0_12, .string a0_13, .string a0_14] 26 (0, 0)) (by (with_reducible repeat (first | refine blk_drewN ?_ _ | refine blk_drew ?_ | refine blk_alloc ?_ _)); exact BK398.out) hb); have n1_ := Aside0.mk (below_step (by repeat (first | (with_reducible first | exact HB.out | apply below_alloc | apply pw_below_drewN | apply below_drew1 | refine below_set ?_ GE398.out) | exact HB.out)) hb); have n2_ := Aside0.mk (hbox); have n3_ := Aside0.mk ((by rw [hg]; exact (below_size (by repeat (first | (with_reducible first | exact HB.out | apply below_alloc | apply pw_below_drewN | apply below_drew1 | refine below_set ?_ GE398.out) | exact HB.out))) : w.heap.size ≤ gb418)); have n4_ := Aside0.mk ((by rw [hg]; exact (below_size (by repeat (first | (with_reducible first | exact HB.out | apply below_alloc | apply pw_below_drewN | apply below_drew1 | refine below_set ?_ GE398.out) | exact HB.out))) : w.heap.size ≤ gb418)); have n5_ := Aside0.mk ((by rw [hg]; exact Nat.ne_of_lt (blk_lt (g := gb398) (o := .cells #[.int .i64 a0_0, .int .i64 a0_1, .bool a0_2, .bool a0_3, .int .i64 a0_4, .int .i64 a0_5, .int .i64 a0_6, .bool a0_7, .int .u64 a0_8, .int .u64 a0_9, .bool a0_10, .int .u64 a0_11, .int .u64 a0_12, .string a0_13, .string a0_14] 26 (0, 0)) (by (with_reducible repeat (first | refine blk_drewN ?_ _ | refine blk_drew ?_ | refine blk_alloc ?_ _)); exact BK398.out)) : gb398 ≠ gb418)); have n6_ := Aside0.mk ((by rw [hg]; exact Nat.ne_of_gt (blk_lt (g := gb398) (o := .cells #[.int .i64 a0_0, .int .i64 a0_1, .bool a0_2, .bool a0_3, .int .i64 a0_4, .int .i64 a0_5, .int .i64 a0_6, .bool a0_7, .int .u64 a0_8, .int .u64 a0_9, .bool a0_10, .int .u64 a0_11, .int .u64 a0_12, .string a0_13, .string a0_14] 26 (0, 0)) (by (with_reducible repeat (first | refine blk_drewN ?_ _ | refine blk_drew ?_ | refine blk_alloc ?_ _)); exact BK398.out)) : gb418 ≠ gb398)); clear BK398; clear HB; have BK398 := n0_; have HB := n1_; have BK418 := n2_; have GW418 := n3_; have GE418 := n4_; have NB398_418 := n5_; have NB418_398 := n6_; clear n0_ n1_ n2_ n3_ n4_ n5_ n6_; clear hb hbox hg; have hnb48 := NB418_398.out; have hnc48 := NB398_418.out; obtain ⟨hcz49_0, hcz49_1, hcz49_2, hcz49_3, hcz49_4, hcz49_5, hcz49_6, hcz49_7, hcz49_8, hcz49_9, hcz49_10, hcz49_11, hcz49_12, hcz49_13, hcz49_14⟩ := MBlk.c15 BK418.out; obtain ⟨hfz49_0, hfz49_1, hfz49_2, hfz49_3, hfz49_4, hfz49_5, hfz49_6, hfz49_7, hfz49_8, hfz49_9, hfz49_10, hfz49_11, hfz49_12, hfz49_13, hfz49_14⟩ := MBlk.f15 BK418.out) | ((with_reducible refine gate_callee (f := 11) rfl ?_); refine goesL_ (some 53) rfl rfl Try.func11 (by kernel_rfl) rfl #[.string (t400.extract 0 ((ji38) : Int).toNat)] rfl (by (try simp only [List.map_toArray, List.map_cons, List.map_nil]); first | done | (simp only [hji38]; rfl) | rfl | (simp only [List.length_drop, List.length_take]; rfl)) ?_; (with_reducible refine (ip4_Take.calls kj5 (t400.extract 0 ((ji38) : Int).toNat) t436 t437 t438 t439 t440 t441 t442 t443 t444 t445 t446 t447 t448 t449 t450 t451 _ A41.out).mono ?_); rintro e w50 ⟨rfl, hb⟩; refine ⟨_, rfl, ?_⟩; have n0_ := Aside0.mk (blk_below (g := gb398) (o := .cells #[.int .i64 a0_0, .int .i64 a0_1, .bool a0_2, .bool a0_3, .int .i64 a0_4, .int .i64 a0_5, .int .i64 a0_6, .bool a0_7, .int .u64 a0_8, .int .u64 a0_9, .bool a0_10, .int .u64 a0_11, .int .u64 a0_12, .string a0_13, .string a0_14] 26 (0, 0)) (by (with_reducible repeat (first | refine blk_drewN ?_ _ | refine blk_drew ?_ | refine blk_alloc ?_ _)); refine blk_far ?_ NB398_418.out _; (with_reducible repeat (first | refine blk_drewN ?_ _ | refine blk_drew ?_ | refine blk_alloc ?_ _)); refine blk_far ?_ NB398_418.out _; (with_reducible repeat (first | refine blk_drewN ?_ _ | refine blk_drew ?_ | refine blk_alloc ?_ _)); refine blk_far ?_ NB398_418.out _; (with_reducible repeat (first | refine blk_drewN ?_ _ | refine blk_drew ?_ | refine blk_alloc ?_ _)); refine blk_far ?_ NB398_418.out _; (with_reducible repeat (first | refine blk_drewN ?_ _ | refine blk_drew ?_ | refine blk_alloc ?_ _)); refine blk_far ?_ NB398_418.out _; (with_reducible repeat (first | refine blk_drewN ?_ _ | refine blk_drew ?_ | refine blk_alloc ?_ _)); refine blk_far ?_ NB398_418.out _; (with_reducible repeat (first | refine blk_drewN ?_ _ | refine blk_drew ?_ | refine blk_alloc ?_ _)); refine blk_far ?_ NB398_418.out _; (with_reducible repeat (first | refine blk_drewN ?_ _ | refine blk_drew ?_ | refine blk_alloc ?_ _)); refine blk_far ?_ NB398_418.out _; (with_reducible repeat (first | refine blk_drewN ?_ _ | refine blk_drew ?_ | refine blk_alloc ?_ _)); refine blk_far ?_ NB398_418.out _; (with_reducible repeat (first | refine blk_drewN ?_ _ | refine blk_drew ?_ | refine blk_alloc ?_ _)); refine blk_far ?_ NB398_418.out _; (with_reducible repeat (first | refine blk_drewN ?_ _ | refine blk_drew ?_ | refine blk_alloc ?_ _)); refine blk_far ?_ NB398_418.out _; (with_reducible repeat (first | refine blk_drewN ?_ _ | refine blk_drew ?_ | refine blk_alloc ?_ _)); refine blk_far ?_ NB398_418.out _; (with_reducible repeat (first | refine blk_drewN ?_ _ | refine blk_drew ?_ | refine blk_alloc ?_ _)); refine blk_far ?_ NB398_418.out _; (with_reducible repeat (first | refine blk_drewN ?_ _ | refine blk_drew ?_ | refine blk_alloc ?_ _)); refine blk_far ?_ NB398_418.out _; (with_reducible repeat (first | refine blk_drewN ?_ _ | refine blk_drew ?_ | refine blk_alloc ?_ _)); refine blk_far ?_ NB398_418.out _; (with_reducible repeat (first | refine blk_drewN ?_ _ | refine blk_drew ?_ | refine blk_alloc ?_ _)); exact BK398.out) hb); have n1_ := Aside0.mk (blk_below (g := gb418) (o := .cells #[.int .i64 t402, .int .i64 t403, .bool t404, .bool t405, .int .i64 t406, .int .i64 t407, .int .i64 t408, .bool t409, .int .u64 t410, .int .u64 t411, .bool t412, .int .u64 t413, .int .u64 t414, .string t415, .string t416] 26 (0, 0)) (by (with_reducible repeat (first | refine blk_drewN ?_ _ | refine blk_drew ?_ | refine blk_alloc ?_ _)); refine blk_put (cs := #[.int .i64 t402, .int .i64 t403, .bool t404, .bool t405, .int .i64 t406, .int .i64 t407, .int .i64 t408, .bool t409, .int .u64 t410, .int .u64 t411, .bool t412, .int .u64 t413, .int .u64 t414, .string t415, .string (⟨#[]⟩ : ByteArray)]) ?_ 14 _ rfl; (with_reducible repeat (first | refine blk_drewN ?_ _ | refine blk_drew ?_ | refine blk_alloc ?_ _)); refine blk_put (cs := #[.int .i64 t402, .int .i64 t403, .bool t404, .bool t405, .int .i64 t406, .int .i64 t407, .int .i64 t408, .bool t409, .int .u64 t410, .int .u64 t411, .bool t412, .int .u64 t413, .int .u64 t414, .string (⟨#[]⟩ : ByteArray), .string (⟨#[]⟩ : ByteArray)]) ?_ 13 _ rfl; (with_reducible repeat (first | refine blk_drewN ?_ _ | refine blk_drew ?_ | refine blk_alloc ?_ _)); refine blk_put (cs := #[.int .i64 t402, .int .i64 t403, .bool t404, .bool t405, .int .i64 t406, .int .i64 t407, .int .i64 t408, .bool t409, .int .u64 t410, .int .u64 t411, .bool t412, .int .u64 t413, .int .u64 0, .string (⟨#[]⟩ : ByteArray), .string (⟨#[]⟩ : ByteArray)]) ?_ 12 _ rfl; (with_reducible repeat (first | refine blk_drewN ?_ _ | refine blk_drew ?_ | refine blk_alloc ?_ _)); refine blk_put (cs := #[.int .i64 t402, .int .i64 t403, .bool t404, .bool t405, .int .i64 t406, .int .i64 t407, .int .i64 t408, .bool t409, .int .u64 t410, .int .u64 t411, .bool t412, .int .u64 0, .int .u64 0, .string (⟨#[]⟩ : ByteArray), .string (⟨#[]⟩ : ByteArray)]) ?_ 11 _ rfl; (with_reducible repeat (first | refine blk_drewN ?_ _ | refine blk_drew ?_ | refine blk_alloc ?_ _)); refine blk_put (cs := #[.int .i64 t402, .int .i64 t403, .bool t404, .bool t405, .int .i64 t406, .int .i64 t407, .int .i64 t408, .bool t409, .int .u64 t410, .int .u64 t411, .bool false, .int .u64 0, .int .u64 0, .string (⟨#[]⟩ : ByteArray), .string (⟨#[]⟩ : ByteArray)]) ?_ 10 _ rfl; (with_reducible repeat (first | refine blk_drewN ?_ _ | refine blk_drew ?_ | refine blk_alloc ?_ _)); refine blk_put (cs := #[.int .i64 t402, .int .i64 t403, .bool t404, .bool t405, .int .i64 t406, .int .i64 t407, .int .i64 t408, .bool t409, .int .u64 t410, .int .u64 0, .bool false, .int .u64 0, .int .u64 0, .string (⟨#[]⟩ : ByteArray), .string (⟨#[]⟩ : ByteArray)]) ?_ 9 _ rfl; (with_reducible repeat (first | refine blk_drewN ?_ _ | refine blk_drew ?_ | refine blk_alloc ?_ _)); refine blk_put (cs := #[.int .i64 t402, .int .i64 t403, .bool t404, .bool t405, .int .i64 t406, .int .i64 t407, .int .i64 t408, .bool t409, .int .u64 0, .int .u64 0, .bool false, .int .u64 0, .int .u64 0, .string (⟨#[]⟩ : ByteArray), .string (⟨#[]⟩ : ByteArray)]) ?_ 8 _ rfl; (with_reducible repeat (first | refine blk_drewN ?_ _ | refine blk_drew ?_ | refine blk_alloc ?_ _)); refine blk_put (cs := #[.int .i64 t402, .int .i64 t403, .bool t404, .bool t405, .int .i64 t406, .int .i64 t407, .int .i64 t408, .bool false, .int .u64 0, .int .u64 0, .bool false, .int .u64 0, .int .u64 0, .string (⟨#[]⟩ : ByteArray), .string (⟨#[]⟩ : ByteArray)]) ?_ 7 _ rfl; (with_reducible repeat (first | refine blk_drewN ?_ _ | refine blk_drew ?_ | refine blk_alloc ?_ _)); refine blk_put (cs := #[.int .i64 t402, .int .i64 t403, .bool t404, .bool t405, .int .i64 t406, .int .i64 t407, .int .i64 0, .bool false, .int .u64 0, .int .u64 0, .bool false, .int .u64 0, .int .u64 0, .string (⟨#[]⟩ : ByteArray), .string (⟨#[]⟩ : ByteArray)]) ?_ 6 _ rfl; (with_reducible repeat (first | refine blk_drewN ?_ _ | refine blk_drew ?_ | refine blk_alloc ?_ _)); refine blk_put (cs := #[.int .i64 t402, .int .i64 t403, .bool t404, .bool t405, .int .i64 t406, .int .i64 0, .int .i64 0, .bool false, .int .u64 0, .int .u64 0, .bool false, .int .u64 0, .int .u64 0, .string (⟨#[]⟩ : ByteArray), .string (⟨#[]⟩ : ByteArray)]) ?_ 5 _ rfl; (with_reducible repeat (first | refine blk_drewN ?_ _ | refine blk_drew ?_ | refine blk_alloc ?_ _)); refine blk_put (cs := #[.int .i64 t402, .int .i64 t403, .bool t404, .bool t405, .int .i64 0, .int .i64 0, .int .i64 0, .bool false, .int .u64 0, .int .u64 0, .bool false, .int .u64 0, .int .u64 0, .string (⟨#[]⟩ : ByteArray), .string (⟨#[]⟩ : ByteArray)]) ?_ 4 _ rfl; (with_reducible repeat (first | refine blk_drewN ?_ _ | refine blk_drew ?_ | refine blk_alloc ?_ _)); refine blk_put (cs := #[.int .i64 t402, .int .i64 t403, .bool t404, .bool false, .int .i64 0, .int .i64 0, .int .i64 0, .bool false, .int .u64 0, .int .u64 0, .bool false, .int .u64 0, .int .u64 0, .string (⟨#[]⟩ : ByteArray), .string (⟨#[]⟩ : ByteArray)]) ?_ 3 _ rfl; (with_reducible repeat (first | refine blk_drewN ?_ _ | refine blk_drew ?_ | refine blk_alloc ?_ _)); refine blk_put (cs := #[.int .i64 t402, .int .i64 t403, .bool false, .bool false, .int .i64 0, .int .i64 0, .int .i64 0, .bool false, .int .u64 0, .int .u64 0, .bool false, .int .u64 0, .int .u64 0, .string (⟨#[]⟩ : ByteArray), .string (⟨#[]⟩ : ByteArray)]) ?_ 2 _ rfl; (with_reducible repeat (first | refine blk_drewN ?_ _ | refine blk_drew ?_ | refine blk_alloc ?_ _)); refine blk_put (cs := #[.int .i64 t402, .int .i64 0, .bool false, .bool false, .int .i64 0, .int .i64 0, .int .i64 0, .bool false, .int .u64 0, .int .u64 0, .bool false, .int .u64 0, .int .u64 0, .string (⟨#[]⟩ : ByteArray), .string (⟨#[]⟩ : ByteArray)]) ?_ 1 _ rfl; (with_reducible repeat (first | refine blk_drewN ?_ _ | refine blk_drew ?_ | refine blk_alloc ?_ _)); refine blk_put (cs := #[.int .i64 0, .int .i64 0, .bool false, .bool false, .int .i64 0, .int .i64 0, .int .i64 0, .bool false, .int .u64 0, .int .u64 0, .bool false, .int .u64 0, .int .u64 0, .string (⟨#[]⟩ : ByteArray), .string (⟨#[]⟩ : ByteArray)]) ?_ 0 _ rfl; (with_reducible repeat (first | refine blk_drewN ?_ _ | refine blk_drew ?_ | refine blk_alloc ?_ _)); exact BK418.out) hb); have n2_ := Aside0.mk (below_step (by repeat (first | (with_reducible first | exact HB.out | apply below_alloc | apply pw_below_drewN | apply below_drew1 | refine below_set ?_ GE398.out | refine below_set ?_ GE418.out) | exact HB.out)) hb); clear BK398; clear BK418; clear HB; have BK398 := n0_; have BK418 := n1_; have HB := n2_; clear n0_ n1_ n2_; (try clear hb); (try clear hb2); (try clear hk); (try clear hi)) | ((with_reducible refine gate_dst (N := 12) rfl ?_); refine box_event ?hg (N := 12) ?hd (cs := #[.int .i64 0, .int .i64 0, .bool false, .bool false, .int .i64 0, .int .i64 0, .int .i64 0, .bool false, .int .u64 0, .int .u64 0, .bool false, .int .u64 0, .int .u64 0, .string (⟨#[]⟩ : ByteArray), .string (⟨#[]⟩ : ByteArray)]) (t := 26) ?hr ?_; (case hd => rfl); (case hg => rfl); (case hr => first | (go_simp; done) | (go_simp; rfl)); intro gb452 hg w51 hbox hb; have n0_ := Aside0.mk (blk_below (g := gb398) (o := .cells #[.int .i64 a0_0, .int .i64 a0_1, .bool a0_2, .bool a0_3, .int .i64 a0_4, .int .i64 a0_5, .int .i64 a0_6, .bool a0_7, .int .u64 a0_8, .int .u64 a0_9, .bool a0_10, .int .u64 a0_11, .int .u64 a0_12, .string a0_13, .string a0_14] 26 (0, 0)) (by (with_reducible repeat (first | refine blk_drewN ?_ _ | refine blk_drew ?_ | refine blk_alloc ?_ _)); exact BK398.out) hb); have n1_ := Aside0.mk (blk_below (g := gb418) (o := .cells #[.int .i64 t402, .int .i64 t403, .bool t404, .bool t405, .int .i64 t406, .int .i64 t407, .int .i64 t408, .bool t409, .int .u64 t410, .int .u64 t411, .bool t412, .int .u64 t413, .int .u64 t414, .string t415, .string t416] 26 (0, 0)) (by (with_reducible repeat (first | refine blk_drewN ?_ _ | refine blk_drew ?_ | refine blk_alloc ?_ _)); exact BK418.out) hb); have n2_ := Aside0.mk (below_step (by repeat (first | (with_reducible first | exact HB.out | apply below_alloc | apply pw_below_drewN | apply below_drew1 | refine below_set ?_ GE398.out | refine below_set ?_ GE418.out) | exact HB.out)) hb); have n3_ := Aside0.mk (hbox); have n4_ := Aside0.mk ((by rw [hg]; exact (below_size (by repeat (first | (with_reducible first | exact HB.out | apply below_alloc | apply pw_below_drewN | apply below_drew1 | refine below_set ?_ GE398.out | refine below_set ?_ GE418.out) | exact HB.out))) : w.heap.size ≤ gb452)); have n5_ := Aside0.mk ((by rw [hg]; exact (below_size (by repeat (first | (with_reducible first | exact HB.out | apply below_alloc | apply pw_below_drewN | apply below_drew1 | refine below_set ?_ GE398.out | refine below_set ?_ GE418.out) | exact HB.out))) : w.heap.size ≤ gb452)); have n6_ := Aside0.mk ((by rw [hg]; exact Nat.ne_of_lt (blk_lt (g := gb398) (o := .cells #[.int .i64 a0_0, .int .i64 a0_1, .bool a0_2, .bool a0_3, .int .i64 a0_4, .int .i64 a0_5, .int .i64 a0_6, .bool a0_7, .int .u64 a0_8, .int .u64 a0_9, .bool a0_10, .int .u64 a0_11, .int .u64 a0_12, .string a0_13, .string a0_14] 26 (0, 0)) (by (with_reducible repeat (first | refine blk_drewN ?_ _ | refine blk_drew ?_ | refine blk_alloc ?_ _)); exact BK398.out)) : gb398 ≠ gb452)); have n7_ := Aside0.mk ((by rw [hg]; exact Nat.ne_of_gt (blk_lt (g := gb398) (o := .cells #[.int .i64 a0_0, .int .i64 a0_1, .bool a0_2, .bool a0_3, .int .i64 a0_4, .int .i64 a0_5, .int .i64 a0_6, .bool a0_7, .int .u64 a0_8, .int .u64 a0_9, .bool a0_10, .int .u64 a0_11, .int .u64 a0_12, .string a0_13, .string a0_14] 26 (0, 0)) (by (with_reducible repeat (first | refine blk_drewN ?_ _ | refine blk_drew ?_ | refine blk_alloc ?_ _)); exact BK398.out)) : gb452 ≠ gb398)); have n8_ := Aside0.mk ((by rw [hg]; exact Nat.ne_of_lt (blk_lt (g := gb418) (o := .cells #[.int .i64 t402, .int .i64 t403, .bool t404, .bool t405, .int .i64 t406, .int .i64 t407, .int .i64 t408, .bool t409, .int .u64 t410, .int .u64 t411, .bool t412, .int .u64 t413, .int .u64 t414, .string t415, .string t416] 26 (0, 0)) (by (with_reducible repeat (first | refine blk_drewN ?_ _ | refine blk_drew ?_ | refine blk_alloc ?_ _)); exact BK418.out)) : gb418 ≠ gb452)); have n9_ := Aside0.mk ((by rw [hg]; exact Nat.ne_of_gt (blk_lt (g := gb418) (o := .cells #[.int .i64 t402, .int .i64 t403, .bool t404, .bool t405, .int .i64 t406, .int .i64 t407, .int .i64 t408, .bool t409, .int .u64 t410, .int .u64 t411, .bool t412, .int .u64 t413, .int .u64 t414, .string t415, .string t416] 26 (0, 0)) (by (with_reducible repeat (first | refine blk_drewN ?_ _ | refine blk_drew ?_ | refine blk_alloc ?_ _)); exact BK418.out)) : gb452 ≠ gb418)); clear BK398; clear BK418; clear HB; have BK398 := n0_; have BK418 := n1_; have HB := n2_; have BK452 := n3_; have GW452 := n4_; have GE452 := n5_; have NB398_452 := n6_; have NB452_398 := n7_; have NB418_452 := n8_; have NB452_418 := n9_; clear n0_ n1_ n2_ n3_ n4_ n5_ n6_ n7_ n8_ n9_; clear hb hbox hg; have hnb52 := NB452_398.out; have hnc52 := NB398_452.out; have hnb53 := NB452_418.out; have hnc53 := NB418_452.out; obtain ⟨hcz54_0, hcz54_1, hcz54_2, hcz54_3, hcz54_4, hcz54_5, hcz54_6, hcz54_7, hcz54_8, hcz54_9, hcz54_10, hcz54_11, hcz54_12, hcz54_13, hcz54_14⟩ := MBlk.c15 BK452.out; obtain ⟨hfz54_0, hfz54_1, hfz54_2, hfz54_3, hfz54_4, hfz54_5, hfz54_6, hfz54_7, hfz54_8, hfz54_9, hfz54_10, hfz54_11, hfz54_12, hfz54_13, hfz54_14⟩ := MBlk.f15 BK452.out; obtain ⟨hcz55_0, hcz55_1, hcz55_2, hcz55_3, hcz55_4, hcz55_5, hcz55_6, hcz55_7, hcz55_8, hcz55_9, hcz55_10, hcz55_11, hcz55_12, hcz55_13, hcz55_14⟩ := MBlk.c15 BK418.out; obtain ⟨hfz55_0, hfz55_1, hfz55_2, hfz55_3, hfz55_4, hfz55_5, hfz55_6, hfz55_7, hfz55_8, hfz55_9, hfz55_10, hfz55_11, hfz55_12, hfz55_13, hfz55_14⟩ := MBlk.f15 BK418.out; obtain ⟨hcz56_0, hcz56_1, hcz56_2, hcz56_3, hcz56_4, hcz56_5, hcz56_6, hcz56_7, hcz56_8, hcz56_9, hcz56_10, hcz56_11, hcz56_12, hcz56_13, hcz56_14⟩ := MBlk.c15 BK398.out; obtain ⟨hfz56_0, hfz56_1, hfz56_2, hfz56_3, hfz56_4, hfz56_5, hfz56_6, hfz56_7, hfz56_8, hfz56_9, hfz56_10, hfz56_11, hfz56_12, hfz56_13, hfz56_14⟩ := MBlk.f15 BK398.out))
            go_ret
            exact ⟨by first | rfl | (simp [errW_none, errW_some] <;> rfl) | (simp only [← hji38]; first | rfl | (simp [errW_none, errW_some] <;> rfl)) | (simp [*, errW_none, errW_some] <;> rfl), by repeat (first | (with_reducible first | exact HB.out | apply below_alloc | apply pw_below_drewN | apply below_drew1 | refine below_set ?_ GE398.out | refine below_set ?_ GE418.out | refine below_set ?_ GE452.out) | exact HB.out)⟩
           ·
            rw [if_neg c43] at H
            have c43b0 : (t402 == a0_0 && (t403 == a0_1 && (t404 == a0_2 && (t405 == a0_3 && (t406 == a0_4 && (t407 == a0_5 && (t408 == a0_6 && ((t409 == a0_7 && (t410 == a0_8 && (t411 == a0_9))) && ((t412 == a0_10 && (t413 == a0_11 && (t414 == a0_12))) && (t415.toList == a0_13.toList && (t416.toList == a0_14.toList))))))))))) = false := by simpa using c43
            (try (have c43b1 : decide (t402 = a0_0 && (t403 == a0_1 && (t404 == a0_2 && (t405 == a0_3 && (t406 == a0_4 && (t407 == a0_5 && (t408 == a0_6 && ((t409 == a0_7 && (t410 == a0_8 && (t411 == a0_9))) && ((t412 == a0_10 && (t413 == a0_11 && (t414 == a0_12))) && (t415.toList == a0_13.toList && (t416.toList == a0_14.toList))))))))))) = false := by simpa using c43))
            (try (have c43b2 : (t402 == a0_0 && (t403 == a0_1 && (t404 == a0_2 && (t405 == a0_3 && (t406 == a0_4 && (t407 == a0_5 && (t408 == a0_6 && ((t409 == a0_7 && (t410 == a0_8 && (t411 == a0_9))) && ((t412 == a0_10 && (t413 == a0_11 && (t414 == a0_12))) && (t415.toList == a0_13.toList && (t416.toList == a0_14.toList))))))))))) = false := by simpa using c43))
            (try (have c43b3 : ¬ (t402 = a0_0 && (t403 == a0_1 && (t404 == a0_2 && (t405 == a0_3 && (t406 == a0_4 && (t407 == a0_5 && (t408 == a0_6 && ((t409 == a0_7 && (t410 == a0_8 && (t411 == a0_9))) && ((t412 == a0_10 && (t413 == a0_11 && (t414 == a0_12))) && (t415.toList == a0_13.toList && (t416.toList == a0_14.toList))))))))))) := by simpa using c43))
            clear c43
            exact absurd ((Option.some.inj H).trans HRT.out) (by decide)
          ·
           rw [if_neg c42] at H
           have c42b0 : (t417 == 0) = false := beq_eq_false_iff_ne.mpr c42
           have c42b1 : (t417 != 0) = true := bne_iff_ne.mpr c42
           exact absurd ((Option.some.inj H).trans HRT.out) (by decide)
         ·
          rw [if_neg c40] at H
          exact absurd H (by simp)
        ·
         rw [if_neg c39] at H
         exact absurd H (by simp)
     ·
      rw [if_neg c14] at H
      exact absurd H (by simp)
    ·
     rw [if_neg c13] at H
     have c13b0 : (t401 == 0) = false := beq_eq_false_iff_ne.mpr c13
     have c13b1 : (t401 != 0) = true := bne_iff_ne.mpr c13
     have H1 : (some (t400.toList == ([] : List UInt8))) = some r := by rw [if_pos rfl] at H; exact H
     clear H
     have H := H1
     clear H1
     obtain rfl := Option.some.inj H
     have hcz57_0 : wc.cell? ⟨gb398, 0, none⟩ = some (.int .i64 a0_0) := (blk_cell BK398.out 0).trans rfl
     have hcz57_1 : wc.cell? ⟨gb398, 1, none⟩ = some (.int .i64 a0_1) := (blk_cell BK398.out 1).trans rfl
     have hcz57_2 : wc.cell? ⟨gb398, 2, none⟩ = some (.bool a0_2) := (blk_cell BK398.out 2).trans rfl
     have hcz57_3 : wc.cell? ⟨gb398, 3, none⟩ = some (.bool a0_3) := (blk_cell BK398.out 3).trans rfl
     have hcz57_4 : wc.cell? ⟨gb398, 4, none⟩ = some (.int .i64 a0_4) := (blk_cell BK398.out 4).trans rfl
     have hcz57_5 : wc.cell? ⟨gb398, 5, none⟩ = some (.int .i64 a0_5) := (blk_cell BK398.out 5).trans rfl
     have hcz57_6 : wc.cell? ⟨gb398, 6, none⟩ = some (.int .i64 a0_6) := (blk_cell BK398.out 6).trans rfl
     have hcz57_7 : wc.cell? ⟨gb398, 7, none⟩ = some (.bool a0_7) := (blk_cell BK398.out 7).trans rfl
     have hcz57_8 : wc.cell? ⟨gb398, 8, none⟩ = some (.int .u64 a0_8) := (blk_cell BK398.out 8).trans rfl
     have hcz57_9 : wc.cell? ⟨gb398, 9, none⟩ = some (.int .u64 a0_9) := (blk_cell BK398.out 9).trans rfl
     have hcz57_10 : wc.cell? ⟨gb398, 10, none⟩ = some (.bool a0_10) := (blk_cell BK398.out 10).trans rfl
     have hcz57_11 : wc.cell? ⟨gb398, 11, none⟩ = some (.int .u64 a0_11) := (blk_cell BK398.out 11).trans rfl
     have hcz57_12 : wc.cell? ⟨gb398, 12, none⟩ = some (.int .u64 a0_12) := (blk_cell BK398.out 12).trans rfl
     have hcz57_13 : wc.cell? ⟨gb398, 13, none⟩ = some (.string a0_13) := (blk_cell BK398.out 13).trans rfl
     have hcz57_14 : wc.cell? ⟨gb398, 14, none⟩ = some (.string a0_14) := (blk_cell BK398.out 14).trans rfl
     have hfz57_0 := blk_frozen BK398.out 0
     have hfz57_1 := blk_frozen BK398.out 1
     have hfz57_2 := blk_frozen BK398.out 2
     have hfz57_3 := blk_frozen BK398.out 3
     have hfz57_4 := blk_frozen BK398.out 4
     have hfz57_5 := blk_frozen BK398.out 5
     have hfz57_6 := blk_frozen BK398.out 6
     have hfz57_7 := blk_frozen BK398.out 7
     have hfz57_8 := blk_frozen BK398.out 8
     have hfz57_9 := blk_frozen BK398.out 9
     have hfz57_10 := blk_frozen BK398.out 10
     have hfz57_11 := blk_frozen BK398.out 11
     have hfz57_12 := blk_frozen BK398.out 12
     have hfz57_13 := blk_frozen BK398.out 13
     have hfz57_14 := blk_frozen BK398.out 14
     go_wp2_with (first | ((with_reducible refine gate_callee (f := 9) rfl ?_); refine goesL_ (some 24) rfl rfl Try.func9 (by kernel_rfl) rfl #[.agg #[.int .i64 a0_0, .int .i64 a0_1, .bool a0_2, .bool a0_3, .int .i64 a0_4, .int .i64 a0_5, .int .i64 a0_6, .bool a0_7, .int .u64 a0_8, .int .u64 a0_9, .bool a0_10, .int .u64 a0_11, .int .u64 a0_12, .string a0_13, .string a0_14]] rfl (by (try simp only [List.map_toArray, List.map_cons, List.map_nil]); first | done | rfl | (simp only [List.length_drop, List.length_take]; rfl)) ?_; (with_reducible refine (ip4_Lay.calls kj5 a0_0 a0_1 a0_2 a0_3 a0_4 a0_5 a0_6 a0_7 a0_8 a0_9 a0_10 a0_11 a0_12 a0_13 a0_14 t400 t401 _ A12.out).mono ?_); rintro e w58 ⟨rfl, hb⟩; refine ⟨_, rfl, ?_⟩; have n0_ := Aside0.mk (blk_below (g := gb398) (o := .cells #[.int .i64 a0_0, .int .i64 a0_1, .bool a0_2, .bool a0_3, .int .i64 a0_4, .int .i64 a0_5, .int .i64 a0_6, .bool a0_7, .int .u64 a0_8, .int .u64 a0_9, .bool a0_10, .int .u64 a0_11, .int .u64 a0_12, .string a0_13, .string a0_14] 26 (0, 0)) (by (with_reducible repeat (first | refine blk_drewN ?_ _ | refine blk_drew ?_ | refine blk_alloc ?_ _)); exact BK398.out) hb); have n1_ := Aside0.mk (below_step (by repeat (first | (with_reducible first | exact HB.out | apply below_alloc | apply pw_below_drewN | apply below_drew1 | refine below_set ?_ GE398.out) | exact HB.out)) hb); clear BK398; clear HB; have BK398 := n0_; have HB := n1_; clear n0_ n1_; (try clear hb); (try clear hb2); (try clear hk); (try clear hi)))
     go_ret
     exact ⟨by first | rfl | (simp [errW_none, errW_some] <;> rfl) | (simp [*, errW_none, errW_some] <;> rfl), by repeat (first | (with_reducible first | exact HB.out | apply below_alloc | apply pw_below_drewN | apply below_drew1 | refine below_set ?_ GE398.out) | exact HB.out)⟩
 ·
  replace c5 := Bool.eq_false_iff.mpr c5
  subst c5
  rw [if_neg (show ¬ (false = true) by decide)] at H
  exact absurd ((Option.some.inj H).trans HRT.out) (by decide)

end Go.Proofs.Ytedampcicmaamaa.PBase
