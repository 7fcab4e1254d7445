/- Functions of the program as Lean functions, each with a proof that a call comes to what it says. Conditions: those of each theorem. Laid by a program of this session. -/
import Derived.Test.YtaoopneiglgnkaaDoorPBasex0
import Derived.Test.YtaoopneiglgnkaaDoorPBasex12
import Derived.Test.YtaoopneiglgnkaaDoorPBasex14
namespace Go.Proofs.YtaoopneiglgnkaaDoor.PBase
open Go.RowKit Go.Proofs.YtaoopneiglgnkaaDoor Go.Proofs.YtaoopneiglgnkaaDoorW.PrintWords Go.Proofs.YtaoopneiglgnkaaDoorW.PrintLast Go.Proofs.YtaoopneiglgnkaaDoorW.PrintMore
attribute [local go_sem] max2_int min2_int max_two min_two max_three min_three max_four min_four   -- for this text's walks alone
set_option linter.unusedVariables false
set_option linter.unusedSimpArgs false

/-! ### crosswaylaw20_ExcuseBehind: function 6 -/
def crosswaylaw20_ExcuseBehind.j0 : Nat → Int → ByteArray → Int → ByteArray → Bool → Bool → Int → Int → Option (Bool)
 | 0, _, _, _, _, _, _, _, _ => none
 | k + 1, x0, x1, x3, x4, x11, x699000, x699001, x699002 => (excuse_Of.f k x0 x1 x699000 x699001 x699002 x3).bind fun bt700 => (if bt700.2 = 0 then (if x1.size + x4.size ≤ 9223372036854775807 then ((excuse_Of.f k x0 (x1 ++ x4) x699000 x699001 x699002 x3).bind fun bt702 => (if x11 = true then (if bt702.2 = 0 then (some (bt702.1.toList == bt700.1.toList)) else (some false)) else (some false))) else (none)) else (some x11))
def crosswaylaw20_ExcuseBehind.f (k : Nat) (a0 : Int) (a1 : ByteArray) (a2_0 : Bool) (a2_1 : Int) (a2_2 : Int) (a3 : Int) (a4 : ByteArray) : Option (Bool) := (crosswaylaw20_awake.f k).bind fun t699 => (if (a4.size : Int) > 5000 then (if 0 ≤ 5000 then (if 5000 ≤ (a4.size : Int) then (crosswaylaw20_ExcuseBehind.j0 k a0 a1 a3 (a4.extract 0 5000) t699 a2_0 a2_1 a2_2) else (none)) else (none)) else (crosswaylaw20_ExcuseBehind.j0 k a0 a1 a3 a4 t699 a2_0 a2_1 a2_2))
theorem crosswaylaw20_ExcuseBehind.mono_l : ∀ k, (∀ y0 y1 y2 y3 y4 y5 y6 y7, LeO (crosswaylaw20_ExcuseBehind.j0 k y0 y1 y2 y3 y4 y5 y6 y7) (crosswaylaw20_ExcuseBehind.j0 (k + 1) y0 y1 y2 y3 y4 y5 y6 y7))
 | 0 => fun _ _ _ _ _ _ _ _ r h => by simp [crosswaylaw20_ExcuseBehind.j0] at h
 | k + 1 => by
  have ih0 := crosswaylaw20_ExcuseBehind.mono_l k
  ·
   intro y0 y1 y2 y3 y4 y5 y6 y7
   unfold crosswaylaw20_ExcuseBehind.j0
   repeat' first
   | (with_reducible exact ih0 _ _ _ _ _ _ _ _)
   | (with_reducible exact crosswaylaw20_awake.mono _)
   | (with_reducible exact excuse_Of.mono _ _ _ _ _ _ _)
   | (with_reducible exact LeO.refl _)
   | (with_reducible exact LeO.none _)
   | (with_reducible refine LeO.ite ?_ ?_)
   | (with_reducible refine LeO.bind ?_ (fun _ => ?_))
   | exact ih0 _ _ _ _ _ _ _ _
   | exact crosswaylaw20_awake.mono _
   | exact excuse_Of.mono _ _ _ _ _ _ _
   | exact LeO.none _
   | refine LeO.ite ?_ ?_
   | refine LeO.bind ?_ (fun _ => ?_)
theorem crosswaylaw20_ExcuseBehind.mono : ∀ a0 a1 a2 a3 a4 a5 a6 k, LeO (crosswaylaw20_ExcuseBehind.f k a0 a1 a2 a3 a4 a5 a6) (crosswaylaw20_ExcuseBehind.f (k + 1) a0 a1 a2 a3 a4 a5 a6) := by
 intro a0 a1 a2 a3 a4 a5 a6 k
 have ih0 := crosswaylaw20_ExcuseBehind.mono_l k
 unfold crosswaylaw20_ExcuseBehind.f
 repeat' first
   | (with_reducible exact ih0 _ _ _ _ _ _ _ _)
   | (with_reducible exact crosswaylaw20_awake.mono _)
   | (with_reducible exact excuse_Of.mono _ _ _ _ _ _ _)
   | (with_reducible exact LeO.refl _)
   | (with_reducible exact LeO.none _)
   | (with_reducible refine LeO.ite ?_ ?_)
   | (with_reducible refine LeO.bind ?_ (fun _ => ?_))
   | exact ih0 _ _ _ _ _ _ _ _
   | exact crosswaylaw20_awake.mono _
   | exact excuse_Of.mono _ _ _ _ _ _ _
   | exact LeO.none _
   | refine LeO.ite ?_ ?_
   | refine LeO.bind ?_ (fun _ => ?_)
set_option maxHeartbeats 8000000 in
set_option maxRecDepth 100000 in
theorem crosswaylaw20_ExcuseBehind.calls (k : Nat) (a0 : Int) (a1 : ByteArray) (a2_0 : Bool) (a2_1 : Int) (a2_2 : Int) (a3 : Int) (a4 : ByteArray) (r : Bool) (w : World) (h : crosswaylaw20_ExcuseBehind.f k a0 a1 a2_0 a2_1 a2_2 a3 a4 = some r) (hrt : r = true) (hg : excuse_Glob w) :
  Calls Tryd.prog 6 #[.int .i64 a0, .string a1, .agg #[.bool a2_0, .int .u64 a2_1, .int .u64 a2_2], .int .i64 a3, .string a4] w fun e w' => e = .returned (.bool r) ∧ Below w.heap.size w w' := by
 have HGL := Aside0.mk hg
 clear hg
 have HRT := Aside0.mk hrt
 clear hrt
 have hu28 := Tryd.underlying28
 have HB := Aside0.mk (Below.refl w.heap.size w)
 have H : ((crosswaylaw20_awake.f k).bind fun t699 => (if (a4.size : Int) > 5000 then (if 0 ≤ 5000 then (if 5000 ≤ (a4.size : Int) then (crosswaylaw20_ExcuseBehind.j0 k a0 a1 a3 (a4.extract 0 5000) t699 a2_0 a2_1 a2_2) else (none)) else (none)) else (crosswaylaw20_ExcuseBehind.j0 k a0 a1 a3 a4 t699 a2_0 a2_1 a2_2))) = some r := h
 clear h
 replace H := Option.bind_eq_some_iff.mp H
 obtain ⟨t699, A60, H⟩ := H
 have A6 := Aside0.mk A60
 clear A60
 have HC7 := Aside0.mk H
 clear H
 go_enter Tryd.func6, Tryd.ntmps6
 go_upto_if 19 with (first | ((with_reducible refine gate_dst (N := 7) rfl ?_); refine sh_E 7 28 #[.bool a2_0, .int .u64 a2_1, .int .u64 a2_2] ?_; intro gb698 hg w8 hbox hb; have BK698 := Aside0.mk hbox; have GW698 := sh_G HB hg; have GE698 := GW698; replace HB := sh_S HB hb; clear hb hbox hg) | ((with_reducible refine gate_callee (f := 9) rfl ?_); refine sh_C 16 Tryd.func9 #[] ?_; (with_reducible refine Calls.mono (crosswaylaw20_awake.calls k  t699 _ A6.out ?hgl_) ?_); (case hgl_ => exact excuse_Glob_below HGL.out (sh_B HB)); rintro e w9 ⟨rfl, hb⟩; refine ⟨_, rfl, ?_⟩; replace BK698 := sh_L BK698 hb; replace HB := sh_S HB hb; (try clear hb); (try clear hb2); (try clear hk); (try clear hi)))
 (try simp only [Act.put, List.setIfInBounds_toArray, List.set_cons_zero, List.set_cons_succ])
 go_cut [4] (fun v4 wc => ∃ (kq : Nat) (x4_6 : ByteArray), v4 = .string x4_6 ∧ Aside0 (crosswaylaw20_ExcuseBehind.j0 kq a0 a1 a3 x4_6 t699 a2_0 a2_1 a2_2 = some r) ∧ Aside0 (kq ≤ k) ∧ Aside0 (wc.heap[gb698]? = some (.cells #[.bool a2_0, .int .u64 a2_1, .int .u64 a2_2] 28 (0, 0))) ∧ Aside0 (Below w.heap.size w wc))
 case first =>
  have H := HC7.out
  clear HC7
  by_cases c10 : (a4.size : Int) > 5000
  ·
   rw [if_pos c10] at H
   have c10b0 : decide (5000 < (a4.size : Int)) = true := decide_eq_true c10
   have c10b1 : decide (5000 < a4.size) = true := decide_eq_true (by omega)
   clear c10
   (first | rw [c10b0] | (simp only [i64_w, i32_w]; rw [c10b0]) | skip)
   by_cases c11 : 0 ≤ 5000
   ·
    rw [if_pos c11] at H
    have c11b0 := eq_true c11
    have c11b1 : decide (0 ≤ 5000) = true := decide_eq_true c11
    clear c11
    by_cases c12 : 5000 ≤ (a4.size : Int)
    ·
     rw [if_pos c12] at H
     have c12b0 := eq_true c12
     have c12b1 : decide (5000 ≤ (a4.size : Int)) = true := decide_eq_true c12
     clear c12
     have H' := Aside0.mk H
     clear H
     go_wp2
     go_meet
     case rel => exact ⟨_, (a4.extract 0 5000), (by first | rfl | (simp; done) | (simp [*]; done)), H', ⟨by first | omega | exact Nat.le_refl _⟩, ⟨by (with_reducible repeat (first | refine blk_drewN ?_ _ | refine blk_drew ?_ | refine blk_alloc ?_ _)); exact BK698.out⟩, ⟨by repeat (first | (with_reducible first | exact HB.out | apply below_alloc | apply pw_below_drewN | apply below_drew1 | refine below_set ?_ GE698.out) | exact HB.out)⟩⟩
    ·
     rw [if_neg c12] at H
     exact absurd H (by simp)
   ·
    rw [if_neg c11] at H
    exact absurd H (by simp)
  ·
   rw [if_neg c10] at H
   have c10b0 : decide (5000 < (a4.size : Int)) = false := decide_eq_false c10
   have c10b1 : decide (5000 < a4.size) = false := decide_eq_false (by omega)
   clear c10
   (first | rw [c10b0] | (simp only [i64_w, i32_w]; rw [c10b0]) | skip)
   have H' := Aside0.mk H
   clear H
   go_wp2
   go_meet
   case rel => exact ⟨_, (a4), (by first | rfl | (simp; done) | (simp [*]; done)), H', ⟨by first | omega | exact Nat.le_refl _⟩, ⟨by (with_reducible repeat (first | refine blk_drewN ?_ _ | refine blk_drew ?_ | refine blk_alloc ?_ _)); exact BK698.out⟩, ⟨by repeat (first | (with_reducible first | exact HB.out | apply below_alloc | apply pw_below_drewN | apply below_drew1 | refine below_set ?_ GE698.out) | exact HB.out)⟩⟩
 case rest =>
  clear HC7
  try clear c1
  try clear p2
  try clear c6
  try clear c9
  try clear c10
  try clear c10b0
  try clear c10b1
  try clear c11
  try clear c11b0
  try clear c11b1
  try clear c12
  try clear c12b0
  try clear c12b1
  obtain ⟨kq, x4_6, rfl, HA, HJ6, BK698, HB⟩ := hcut
  cases kq with
  | zero => exact absurd HA.out (by simp [crosswaylaw20_ExcuseBehind.j0])
  | succ kj6 =>
   have H := HA.out
   clear HA
   simp only [crosswaylaw20_ExcuseBehind.j0] at H
   replace H := Option.bind_eq_some_iff.mp H
   obtain ⟨⟨t700, t701⟩, A130, H⟩ := H
   replace H : (if t701 = 0 then (if a1.size + x4_6.size ≤ 9223372036854775807 then ((excuse_Of.f kj6 a0 (a1 ++ x4_6) a2_0 a2_1 a2_2 a3).bind fun bt702 => (if t699 = true then (if bt702.2 = 0 then (some (bt702.1.toList == t700.toList)) else (some false)) else (some false))) else (none)) else (some t699)) = some r := H
   have A13 := Aside0.mk A130
   clear A130
   by_cases c14 : t701 = 0
   ·
    rw [if_pos c14] at H
    have c14b0 : (t701 == 0) = true := beq_iff_eq.mpr c14
    have c14b1 : (t701 != 0) = false := bne_eq_false_iff_eq.mpr c14
    clear c14
    by_cases c15 : a1.size + x4_6.size ≤ 9223372036854775807
    ·
     rw [if_pos c15] at H
     have c15b0 := eq_true c15
     have c15b1 : decide (a1.size + x4_6.size ≤ 9223372036854775807) = true := decide_eq_true c15
     try have c15b2 : (9223372036854775807 < a1.size + x4_6.size) = False := eq_false (Nat.not_lt.2 c15)
     replace H := Option.bind_eq_some_iff.mp H
     obtain ⟨⟨t702, t703⟩, A160, H⟩ := H
     replace H : (if t699 = true then (if t703 = 0 then (some (t702.toList == t700.toList)) else (some false)) else (some false)) = some r := H
     have A16 := Aside0.mk A160
     clear A160
     by_cases c17 : t699 = true
     ·
      subst c17
      rw [if_pos rfl] at H
      by_cases c18 : t703 = 0
      ·
       rw [if_pos c18] at H
       have c18b0 : (t703 == 0) = true := beq_iff_eq.mpr c18
       have c18b1 : (t703 != 0) = false := bne_eq_false_iff_eq.mpr c18
       clear c18
       obtain rfl := Option.some.inj H
       have hcz19_0 : wc.cell? ⟨gb698, 0, none⟩ = some (.bool a2_0) := (blk_cell BK698.out 0).trans rfl
       have hcz19_1 : wc.cell? ⟨gb698, 1, none⟩ = some (.int .u64 a2_1) := (blk_cell BK698.out 1).trans rfl
       have hcz19_2 : wc.cell? ⟨gb698, 2, none⟩ = some (.int .u64 a2_2) := (blk_cell BK698.out 2).trans rfl
       have hfz19_0 := blk_frozen BK698.out 0
       have hfz19_1 := blk_frozen BK698.out 1
       have hfz19_2 := blk_frozen BK698.out 2
       go_wp2_with (first | ((with_reducible refine gate_callee (f := 12) rfl ?_); refine sh_C 27 Tryd.func12 #[.int .i64 a0, .string a1, .agg #[.bool a2_0, .int .u64 a2_1, .int .u64 a2_2], .int .i64 a3] ?_; (with_reducible refine Calls.mono (excuse_Of.calls kj6 a0 a1 a2_0 a2_1 a2_2 a3 t700 t701 _ A13.out ?hgl_) ?_); (case hgl_ => exact excuse_Glob_below HGL.out (sh_B HB)); rintro e w20 ⟨rfl, hb⟩; refine ⟨_, rfl, ?_⟩; replace BK698 := sh_L BK698 hb; replace HB := sh_S HB hb; (try clear hb); (try clear hb2); (try clear hk); (try clear hi); obtain ⟨hcz21_0, hcz21_1, hcz21_2⟩ := MBlk.c3 BK698.out; obtain ⟨hfz21_0, hfz21_1, hfz21_2⟩ := MBlk.f3 BK698.out) | ((with_reducible refine gate_callee (f := 12) rfl ?_); refine sh_C 40 Tryd.func12 #[.int .i64 a0, .string (a1 ++ x4_6), .agg #[.bool a2_0, .int .u64 a2_1, .int .u64 a2_2], .int .i64 a3] ?_; (with_reducible refine Calls.mono (excuse_Of.calls kj6 a0 (a1 ++ x4_6) a2_0 a2_1 a2_2 a3 t702 t703 _ A16.out ?hgl_) ?_); (case hgl_ => exact excuse_Glob_below HGL.out (sh_B HB)); rintro e w22 ⟨rfl, hb⟩; refine ⟨_, rfl, ?_⟩; replace BK698 := sh_L BK698 hb; replace HB := sh_S HB hb; (try clear hb); (try clear hb2); (try clear hk); (try clear hi)))
       go_ret
       exact ⟨by first | rfl | (simp [errW_none, errW_some] <;> rfl) | (simp [*, errW_none, errW_some] <;> rfl), by repeat (first | (with_reducible first | exact HB.out | apply below_alloc | apply pw_below_drewN | apply below_drew1 | refine below_set ?_ GE698.out) | exact HB.out)⟩
      ·
       rw [if_neg c18] at H
       have c18b0 : (t703 == 0) = false := beq_eq_false_iff_ne.mpr c18
       have c18b1 : (t703 != 0) = true := bne_iff_ne.mpr c18
       exact absurd ((Option.some.inj H).trans HRT.out) (by decide)
     ·
      replace c17 := Bool.eq_false_iff.mpr c17
      subst c17
      rw [if_neg (show ¬ (false = true) by decide)] at H
      exact absurd ((Option.some.inj H).trans HRT.out) (by decide)
    ·
     rw [if_neg c15] at H
     exact absurd H (by simp)
   ·
    rw [if_neg c14] at H
    have c14b0 : (t701 == 0) = false := beq_eq_false_iff_ne.mpr c14
    have c14b1 : (t701 != 0) = true := bne_iff_ne.mpr c14
    obtain rfl := Option.some.inj H
    have hcz23_0 : wc.cell? ⟨gb698, 0, none⟩ = some (.bool a2_0) := (blk_cell BK698.out 0).trans rfl
    have hcz23_1 : wc.cell? ⟨gb698, 1, none⟩ = some (.int .u64 a2_1) := (blk_cell BK698.out 1).trans rfl
    have hcz23_2 : wc.cell? ⟨gb698, 2, none⟩ = some (.int .u64 a2_2) := (blk_cell BK698.out 2).trans rfl
    have hfz23_0 := blk_frozen BK698.out 0
    have hfz23_1 := blk_frozen BK698.out 1
    have hfz23_2 := blk_frozen BK698.out 2
    go_wp2_with (first | ((with_reducible refine gate_callee (f := 12) rfl ?_); refine sh_C 27 Tryd.func12 #[.int .i64 a0, .string a1, .agg #[.bool a2_0, .int .u64 a2_1, .int .u64 a2_2], .int .i64 a3] ?_; (with_reducible refine Calls.mono (excuse_Of.calls kj6 a0 a1 a2_0 a2_1 a2_2 a3 t700 t701 _ A13.out ?hgl_) ?_); (case hgl_ => exact excuse_Glob_below HGL.out (sh_B HB)); rintro e w24 ⟨rfl, hb⟩; refine ⟨_, rfl, ?_⟩; replace BK698 := sh_L BK698 hb; replace HB := sh_S HB hb; (try clear hb); (try clear hb2); (try clear hk); (try clear hi)))
    go_ret
    exact ⟨by first | rfl | (simp [errW_none, errW_some] <;> rfl) | (simp [*, errW_none, errW_some] <;> rfl), by repeat (first | (with_reducible first | exact HB.out | apply below_alloc | apply pw_below_drewN | apply below_drew1 | refine below_set ?_ GE698.out) | exact HB.out)⟩

end Go.Proofs.YtaoopneiglgnkaaDoor.PBase
