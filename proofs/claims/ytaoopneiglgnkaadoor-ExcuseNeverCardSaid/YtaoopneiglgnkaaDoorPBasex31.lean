/- Functions of the program as Lean functions, each with a proof that a call comes to what it says. Conditions: those of each theorem. Laid by a program of this session. -/
import Derived.Test.YtaoopneiglgnkaaDoorPBasex0
import Derived.Test.YtaoopneiglgnkaaDoorPBasex9
import Derived.Test.YtaoopneiglgnkaaDoorPBasex12
import Derived.Test.YtaoopneiglgnkaaDoorPBasex14
namespace Go.Proofs.YtaoopneiglgnkaaDoor.PBase
open Go.RowKit Go.Proofs.YtaoopneiglgnkaaDoor Go.Proofs.YtaoopneiglgnkaaDoorW.PrintWords Go.Proofs.YtaoopneiglgnkaaDoorW.PrintLast Go.Proofs.YtaoopneiglgnkaaDoorW.PrintMore
attribute [local go_sem] max2_int min2_int max_two min_two max_three min_three max_four min_four   -- for this text's walks alone
set_option linter.unusedVariables false
set_option linter.unusedSimpArgs false

/-! ### crosswaylaw20_ExcuseNever: function 5 -/
def crosswaylaw20_ExcuseNever.f (k : Nat) (a0 : Int) (a1 : ByteArray) (a2_0 : Bool) (a2_1 : Int) (a2_2 : Int) (a3 : Int) (a4 : Int) (a5_0 : Bool) (a5_1 : Int) (a5_2 : Int) : Option (Bool) := (crosswaylaw20_awake.f k).bind fun t692 => ((excuse_Of.f k a0 a1 a2_0 a2_1 a2_2 a3).bind fun bt693 => (if bt693.2 = 0 then ((excuse_Of.f k a4 bt693.1 a5_0 a5_1 a5_2 0).bind fun bt695 => (if t692 = true then ((excuse_May.f k bt693.1).bind fun t697 => (if t697 = true then (some false) else (if bt695.1.toList = ([] : List UInt8) then (if bt695.2 = 1 then (some true) else (some (bt695.2 == 170))) else (some false)))) else (some false))) else (if t692 = true then (if bt693.1.toList = ([] : List UInt8) then (if bt693.2 = 1 then (some true) else (some (bt693.2 == 170))) else (some false)) else (some false))))
theorem crosswaylaw20_ExcuseNever.mono : ∀ a0 a1 a2 a3 a4 a5 a6 a7 a8 a9 k, LeO (crosswaylaw20_ExcuseNever.f k a0 a1 a2 a3 a4 a5 a6 a7 a8 a9) (crosswaylaw20_ExcuseNever.f (k + 1) a0 a1 a2 a3 a4 a5 a6 a7 a8 a9) := by
 intro a0 a1 a2 a3 a4 a5 a6 a7 a8 a9 k
 unfold crosswaylaw20_ExcuseNever.f
 repeat' first
   | (with_reducible exact crosswaylaw20_awake.mono _)
   | (with_reducible exact excuse_May.mono _ _)
   | (with_reducible exact excuse_Of.mono _ _ _ _ _ _ _)
   | (with_reducible exact LeO.refl _)
   | (with_reducible exact LeO.none _)
   | (with_reducible refine LeO.ite ?_ ?_)
   | (with_reducible refine LeO.bind ?_ (fun _ => ?_))
   | exact crosswaylaw20_awake.mono _
   | exact excuse_May.mono _ _
   | exact excuse_Of.mono _ _ _ _ _ _ _
   | exact LeO.none _
   | refine LeO.ite ?_ ?_
   | refine LeO.bind ?_ (fun _ => ?_)
set_option maxHeartbeats 8000000 in
set_option maxRecDepth 100000 in
theorem crosswaylaw20_ExcuseNever.calls (k : Nat) (a0 : Int) (a1 : ByteArray) (a2_0 : Bool) (a2_1 : Int) (a2_2 : Int) (a3 : Int) (a4 : Int) (a5_0 : Bool) (a5_1 : Int) (a5_2 : Int) (r : Bool) (w : World) (h : crosswaylaw20_ExcuseNever.f k a0 a1 a2_0 a2_1 a2_2 a3 a4 a5_0 a5_1 a5_2 = some r) (hrt : r = true) (hg : excuse_Glob w) :
  Calls Tryd.prog 5 #[.int .i64 a0, .string a1, .agg #[.bool a2_0, .int .u64 a2_1, .int .u64 a2_2], .int .i64 a3, .int .i64 a4, .agg #[.bool a5_0, .int .u64 a5_1, .int .u64 a5_2]] w fun e w' => e = .returned (.bool r) ∧ Below w.heap.size w w' := by
 have HGL := Aside0.mk hg
 clear hg
 have HRT := Aside0.mk hrt
 clear hrt
 have hu28 := Tryd.underlying28
 have HB := Aside0.mk (Below.refl w.heap.size w)
 have H : ((crosswaylaw20_awake.f k).bind fun t692 => ((excuse_Of.f k a0 a1 a2_0 a2_1 a2_2 a3).bind fun bt693 => (if bt693.2 = 0 then ((excuse_Of.f k a4 bt693.1 a5_0 a5_1 a5_2 0).bind fun bt695 => (if t692 = true then ((excuse_May.f k bt693.1).bind fun t697 => (if t697 = true then (some false) else (if bt695.1.toList = ([] : List UInt8) then (if bt695.2 = 1 then (some true) else (some (bt695.2 == 170))) else (some false)))) else (some false))) else (if t692 = true then (if bt693.1.toList = ([] : List UInt8) then (if bt693.2 = 1 then (some true) else (some (bt693.2 == 170))) else (some false)) else (some false))))) = some r := h
 clear h
 replace H := Option.bind_eq_some_iff.mp H
 obtain ⟨t692, A70, H⟩ := H
 have A7 := Aside0.mk A70
 clear A70
 replace H := Option.bind_eq_some_iff.mp H
 obtain ⟨⟨t693, t694⟩, A80, H⟩ := H
 replace H : (if t694 = 0 then ((excuse_Of.f k a4 t693 a5_0 a5_1 a5_2 0).bind fun bt695 => (if t692 = true then ((excuse_May.f k t693).bind fun t697 => (if t697 = true then (some false) else (if bt695.1.toList = ([] : List UInt8) then (if bt695.2 = 1 then (some true) else (some (bt695.2 == 170))) else (some false)))) else (some false))) else (if t692 = true then (if t693.toList = ([] : List UInt8) then (if t694 = 1 then (some true) else (some (t694 == 170))) else (some false)) else (some false))) = some r := H
 have A8 := Aside0.mk A80
 clear A80
 by_cases c9 : t694 = 0
 ·
  rw [if_pos c9] at H
  have c9b0 : (t694 == 0) = true := beq_iff_eq.mpr c9
  have c9b1 : (t694 != 0) = false := bne_eq_false_iff_eq.mpr c9
  clear c9
  replace H := Option.bind_eq_some_iff.mp H
  obtain ⟨⟨t695, t696⟩, A100, H⟩ := H
  replace H : (if t692 = true then ((excuse_May.f k t693).bind fun t697 => (if t697 = true then (some false) else (if t695.toList = ([] : List UInt8) then (if t696 = 1 then (some true) else (some (t696 == 170))) else (some false)))) else (some false)) = some r := H
  have A10 := Aside0.mk A100
  clear A100
  by_cases c11 : t692 = true
  ·
   subst c11
   rw [if_pos rfl] at H
   replace H := Option.bind_eq_some_iff.mp H
   obtain ⟨t697, A120, H⟩ := H
   have A12 := Aside0.mk A120
   clear A120
   by_cases c13 : t697 = true
   ·
    subst c13
    rw [if_pos rfl] at H
    exact absurd ((Option.some.inj H).trans HRT.out) (by decide)
   ·
    replace c13 := Bool.eq_false_iff.mpr c13
    subst c13
    rw [if_neg (show ¬ (false = true) by decide)] at H
    by_cases c14 : t695.toList = ([] : List UInt8)
    ·
     rw [if_pos c14] at H
     have c14b0 : (t695.toList == ([] : List UInt8)) = true := beq_iff_eq.mpr c14
     have c14b1 : (t695.toList != ([] : List UInt8)) = false := bne_eq_false_iff_eq.mpr c14
     clear c14
     by_cases c15 : t696 = 1
     ·
      rw [if_pos c15] at H
      have c15b0 : (t696 == 1) = true := beq_iff_eq.mpr c15
      have c15b1 : (t696 != 1) = false := bne_eq_false_iff_eq.mpr c15
      clear c15
      obtain rfl := Option.some.inj H
      go_enter Tryd.func5, Tryd.ntmps5
      go_wp2_with (first | ((with_reducible refine gate_dst (N := 8) rfl ?_); refine sh_E 8 28 #[.bool a2_0, .int .u64 a2_1, .int .u64 a2_2] ?_; intro gb690 hg w16 hbox hb; have BK690 := Aside0.mk hbox; have GW690 := sh_G HB hg; have GE690 := GW690; replace HB := sh_S HB hb; clear hb hbox hg) | ((with_reducible refine gate_dst (N := 11) rfl ?_); refine sh_E 11 28 #[.bool a5_0, .int .u64 a5_1, .int .u64 a5_2] ?_; intro gb691 hg w17 hbox hb; have BK691 := Aside0.mk hbox; have GW691 := sh_G HB hg; have GE691 := GW691; replace HB := sh_S HB hb; have NB690_691 := sh_N BK690 hg; have NB691_690 := sh_M BK690 hg; replace BK690 := sh_L BK690 hb; clear hb hbox hg) | ((with_reducible refine gate_callee (f := 9) rfl ?_); refine sh_C 18 Tryd.func9 #[] ?_; (with_reducible refine Calls.mono (crosswaylaw20_awake.calls k  true _ A7.out ?hgl_) ?_); (case hgl_ => exact excuse_Glob_below HGL.out (sh_B HB)); rintro e w18 ⟨rfl, hb⟩; refine ⟨_, rfl, ?_⟩; replace BK690 := sh_L BK690 hb; replace BK691 := sh_L BK691 hb; replace HB := sh_S HB hb; (try clear hb); (try clear hb2); (try clear hk); (try clear hi); have hnb19 := NB690_691.out; have hnc19 := NB691_690.out; obtain ⟨hcz20_0, hcz20_1, hcz20_2⟩ := MBlk.c3 BK690.out; obtain ⟨hfz20_0, hfz20_1, hfz20_2⟩ := MBlk.f3 BK690.out) | ((with_reducible refine gate_callee (f := 12) rfl ?_); refine sh_C 24 Tryd.func12 #[.int .i64 a0, .string a1, .agg #[.bool a2_0, .int .u64 a2_1, .int .u64 a2_2], .int .i64 a3] ?_; (with_reducible refine Calls.mono (excuse_Of.calls k a0 a1 a2_0 a2_1 a2_2 a3 t693 t694 _ A8.out ?hgl_) ?_); (case hgl_ => exact excuse_Glob_below HGL.out (sh_B HB)); rintro e w21 ⟨rfl, hb⟩; refine ⟨_, rfl, ?_⟩; replace BK690 := sh_L BK690 hb; replace BK691 := sh_L BK691 hb; replace HB := sh_S HB hb; (try clear hb); (try clear hb2); (try clear hk); (try clear hi); obtain ⟨hcz22_0, hcz22_1, hcz22_2⟩ := MBlk.c3 BK691.out; obtain ⟨hfz22_0, hfz22_1, hfz22_2⟩ := MBlk.f3 BK691.out) | ((with_reducible refine gate_callee (f := 12) rfl ?_); refine sh_C 46 Tryd.func12 #[.int .i64 a4, .string t693, .agg #[.bool a5_0, .int .u64 a5_1, .int .u64 a5_2], .int .i64 0] ?_; (with_reducible refine Calls.mono (excuse_Of.calls k a4 t693 a5_0 a5_1 a5_2 0 t695 t696 _ A10.out ?hgl_) ?_); (case hgl_ => exact excuse_Glob_below HGL.out (sh_B HB)); rintro e w23 ⟨rfl, hb⟩; refine ⟨_, rfl, ?_⟩; replace BK690 := sh_L BK690 hb; replace BK691 := sh_L BK691 hb; replace HB := sh_S HB hb; (try clear hb); (try clear hb2); (try clear hk); (try clear hi)) | (go_at_call 14; (with_reducible refine (excuse_May.calls k t693 false _ A12.out).mono ?_); rintro e w24 ⟨rfl, hb⟩; replace BK690 := sh_L BK690 hb; replace BK691 := sh_L BK691 hb; replace HB := sh_S HB hb; (try clear hb); (try clear hb2); (try clear hk); (try clear hi)))
      go_ret
      exact ⟨by first | rfl | (simp [errW_none, errW_some] <;> rfl) | (simp [*, errW_none, errW_some] <;> rfl), by repeat (first | (with_reducible first | exact HB.out | apply below_alloc | apply pw_below_drewN | apply below_drew1 | refine below_set ?_ GE690.out | refine below_set ?_ GE691.out) | exact HB.out)⟩
     ·
      rw [if_neg c15] at H
      have c15b0 : (t696 == 1) = false := beq_eq_false_iff_ne.mpr c15
      have c15b1 : (t696 != 1) = true := bne_iff_ne.mpr c15
      obtain rfl := Option.some.inj H
      go_enter Tryd.func5, Tryd.ntmps5
      go_wp2_with (first | ((with_reducible refine gate_dst (N := 8) rfl ?_); refine sh_E 8 28 #[.bool a2_0, .int .u64 a2_1, .int .u64 a2_2] ?_; intro gb690 hg w25 hbox hb; have BK690 := Aside0.mk hbox; have GW690 := sh_G HB hg; have GE690 := GW690; replace HB := sh_S HB hb; clear hb hbox hg) | ((with_reducible refine gate_dst (N := 11) rfl ?_); refine sh_E 11 28 #[.bool a5_0, .int .u64 a5_1, .int .u64 a5_2] ?_; intro gb691 hg w26 hbox hb; have BK691 := Aside0.mk hbox; have GW691 := sh_G HB hg; have GE691 := GW691; replace HB := sh_S HB hb; have NB690_691 := sh_N BK690 hg; have NB691_690 := sh_M BK690 hg; replace BK690 := sh_L BK690 hb; clear hb hbox hg) | ((with_reducible refine gate_callee (f := 9) rfl ?_); refine sh_C 18 Tryd.func9 #[] ?_; (with_reducible refine Calls.mono (crosswaylaw20_awake.calls k  true _ A7.out ?hgl_) ?_); (case hgl_ => exact excuse_Glob_below HGL.out (sh_B HB)); rintro e w27 ⟨rfl, hb⟩; refine ⟨_, rfl, ?_⟩; replace BK690 := sh_L BK690 hb; replace BK691 := sh_L BK691 hb; replace HB := sh_S HB hb; (try clear hb); (try clear hb2); (try clear hk); (try clear hi); have hnb28 := NB690_691.out; have hnc28 := NB691_690.out; obtain ⟨hcz29_0, hcz29_1, hcz29_2⟩ := MBlk.c3 BK690.out; obtain ⟨hfz29_0, hfz29_1, hfz29_2⟩ := MBlk.f3 BK690.out) | ((with_reducible refine gate_callee (f := 12) rfl ?_); refine sh_C 24 Tryd.func12 #[.int .i64 a0, .string a1, .agg #[.bool a2_0, .int .u64 a2_1, .int .u64 a2_2], .int .i64 a3] ?_; (with_reducible refine Calls.mono (excuse_Of.calls k a0 a1 a2_0 a2_1 a2_2 a3 t693 t694 _ A8.out ?hgl_) ?_); (case hgl_ => exact excuse_Glob_below HGL.out (sh_B HB)); rintro e w30 ⟨rfl, hb⟩; refine ⟨_, rfl, ?_⟩; replace BK690 := sh_L BK690 hb; replace BK691 := sh_L BK691 hb; replace HB := sh_S HB hb; (try clear hb); (try clear hb2); (try clear hk); (try clear hi); obtain ⟨hcz31_0, hcz31_1, hcz31_2⟩ := MBlk.c3 BK691.out; obtain ⟨hfz31_0, hfz31_1, hfz31_2⟩ := MBlk.f3 BK691.out) | ((with_reducible refine gate_callee (f := 12) rfl ?_); refine sh_C 46 Tryd.func12 #[.int .i64 a4, .string t693, .agg #[.bool a5_0, .int .u64 a5_1, .int .u64 a5_2], .int .i64 0] ?_; (with_reducible refine Calls.mono (excuse_Of.calls k a4 t693 a5_0 a5_1 a5_2 0 t695 t696 _ A10.out ?hgl_) ?_); (case hgl_ => exact excuse_Glob_below HGL.out (sh_B HB)); rintro e w32 ⟨rfl, hb⟩; refine ⟨_, rfl, ?_⟩; replace BK690 := sh_L BK690 hb; replace BK691 := sh_L BK691 hb; replace HB := sh_S HB hb; (try clear hb); (try clear hb2); (try clear hk); (try clear hi)) | (go_at_call 14; (with_reducible refine (excuse_May.calls k t693 false _ A12.out).mono ?_); rintro e w33 ⟨rfl, hb⟩; replace BK690 := sh_L BK690 hb; replace BK691 := sh_L BK691 hb; replace HB := sh_S HB hb; (try clear hb); (try clear hb2); (try clear hk); (try clear hi)))
      go_ret
      exact ⟨by first | rfl | (simp [errW_none, errW_some] <;> rfl) | (simp [*, errW_none, errW_some] <;> rfl), by repeat (first | (with_reducible first | exact HB.out | apply below_alloc | apply pw_below_drewN | apply below_drew1 | refine below_set ?_ GE690.out | refine below_set ?_ GE691.out) | exact HB.out)⟩
    ·
     rw [if_neg c14] at H
     have c14b0 : (t695.toList == ([] : List UInt8)) = false := beq_eq_false_iff_ne.mpr c14
     have c14b1 : (t695.toList != ([] : List UInt8)) = true := bne_iff_ne.mpr c14
     exact absurd ((Option.some.inj H).trans HRT.out) (by decide)
  ·
   replace c11 := Bool.eq_false_iff.mpr c11
   subst c11
   rw [if_neg (show ¬ (false = true) by decide)] at H
   exact absurd ((Option.some.inj H).trans HRT.out) (by decide)
 ·
  rw [if_neg c9] at H
  have c9b0 : (t694 == 0) = false := beq_eq_false_iff_ne.mpr c9
  have c9b1 : (t694 != 0) = true := bne_iff_ne.mpr c9
  by_cases c34 : t692 = true
  ·
   subst c34
   rw [if_pos rfl] at H
   by_cases c35 : t693.toList = ([] : List UInt8)
   ·
    rw [if_pos c35] at H
    have c35b0 : (t693.toList == ([] : List UInt8)) = true := beq_iff_eq.mpr c35
    have c35b1 : (t693.toList != ([] : List UInt8)) = false := bne_eq_false_iff_eq.mpr c35
    clear c35
    by_cases c36 : t694 = 1
    ·
     rw [if_pos c36] at H
     have c36b0 : (t694 == 1) = true := beq_iff_eq.mpr c36
     have c36b1 : (t694 != 1) = false := bne_eq_false_iff_eq.mpr c36
     clear c36
     obtain rfl := Option.some.inj H
     go_enter Tryd.func5, Tryd.ntmps5
     go_wp2_with (first | ((with_reducible refine gate_dst (N := 8) rfl ?_); refine sh_E 8 28 #[.bool a2_0, .int .u64 a2_1, .int .u64 a2_2] ?_; intro gb690 hg w37 hbox hb; have BK690 := Aside0.mk hbox; have GW690 := sh_G HB hg; have GE690 := GW690; replace HB := sh_S HB hb; clear hb hbox hg) | ((with_reducible refine gate_dst (N := 11) rfl ?_); refine sh_E 11 28 #[.bool a5_0, .int .u64 a5_1, .int .u64 a5_2] ?_; intro gb691 hg w38 hbox hb; have BK691 := Aside0.mk hbox; have GW691 := sh_G HB hg; have GE691 := GW691; replace HB := sh_S HB hb; have NB690_691 := sh_N BK690 hg; have NB691_690 := sh_M BK690 hg; replace BK690 := sh_L BK690 hb; clear hb hbox hg) | ((with_reducible refine gate_callee (f := 9) rfl ?_); refine sh_C 18 Tryd.func9 #[] ?_; (with_reducible refine Calls.mono (crosswaylaw20_awake.calls k  true _ A7.out ?hgl_) ?_); (case hgl_ => exact excuse_Glob_below HGL.out (sh_B HB)); rintro e w39 ⟨rfl, hb⟩; refine ⟨_, rfl, ?_⟩; replace BK690 := sh_L BK690 hb; replace BK691 := sh_L BK691 hb; replace HB := sh_S HB hb; (try clear hb); (try clear hb2); (try clear hk); (try clear hi); have hnb40 := NB690_691.out; have hnc40 := NB691_690.out; obtain ⟨hcz41_0, hcz41_1, hcz41_2⟩ := MBlk.c3 BK690.out; obtain ⟨hfz41_0, hfz41_1, hfz41_2⟩ := MBlk.f3 BK690.out) | ((with_reducible refine gate_callee (f := 12) rfl ?_); refine sh_C 24 Tryd.func12 #[.int .i64 a0, .string a1, .agg #[.bool a2_0, .int .u64 a2_1, .int .u64 a2_2], .int .i64 a3] ?_; (with_reducible refine Calls.mono (excuse_Of.calls k a0 a1 a2_0 a2_1 a2_2 a3 t693 t694 _ A8.out ?hgl_) ?_); (case hgl_ => exact excuse_Glob_below HGL.out (sh_B HB)); rintro e w42 ⟨rfl, hb⟩; refine ⟨_, rfl, ?_⟩; replace BK690 := sh_L BK690 hb; replace BK691 := sh_L BK691 hb; replace HB := sh_S HB hb; (try clear hb); (try clear hb2); (try clear hk); (try clear hi)))
     go_ret
     exact ⟨by first | rfl | (simp [errW_none, errW_some] <;> rfl) | (simp [*, errW_none, errW_some] <;> rfl), by repeat (first | (with_reducible first | exact HB.out | apply below_alloc | apply pw_below_drewN | apply below_drew1 | refine below_set ?_ GE690.out | refine below_set ?_ GE691.out) | exact HB.out)⟩
    ·
     rw [if_neg c36] at H
     have c36b0 : (t694 == 1) = false := beq_eq_false_iff_ne.mpr c36
     have c36b1 : (t694 != 1) = true := bne_iff_ne.mpr c36
     obtain rfl := Option.some.inj H
     go_enter Tryd.func5, Tryd.ntmps5
     go_wp2_with (first | ((with_reducible refine gate_dst (N := 8) rfl ?_); refine sh_E 8 28 #[.bool a2_0, .int .u64 a2_1, .int .u64 a2_2] ?_; intro gb690 hg w43 hbox hb; have BK690 := Aside0.mk hbox; have GW690 := sh_G HB hg; have GE690 := GW690; replace HB := sh_S HB hb; clear hb hbox hg) | ((with_reducible refine gate_dst (N := 11) rfl ?_); refine sh_E 11 28 #[.bool a5_0, .int .u64 a5_1, .int .u64 a5_2] ?_; intro gb691 hg w44 hbox hb; have BK691 := Aside0.mk hbox; have GW691 := sh_G HB hg; have GE691 := GW691; replace HB := sh_S HB hb; have NB690_691 := sh_N BK690 hg; have NB691_690 := sh_M BK690 hg; replace BK690 := sh_L BK690 hb; clear hb hbox hg) | ((with_reducible refine gate_callee (f := 9) rfl ?_); refine sh_C 18 Tryd.func9 #[] ?_; (with_reducible refine Calls.mono (crosswaylaw20_awake.calls k  true _ A7.out ?hgl_) ?_); (case hgl_ => exact excuse_Glob_below HGL.out (sh_B HB)); rintro e w45 ⟨rfl, hb⟩; refine ⟨_, rfl, ?_⟩; replace BK690 := sh_L BK690 hb; replace BK691 := sh_L BK691 hb; replace HB := sh_S HB hb; (try clear hb); (try clear hb2); (try clear hk); (try clear hi); have hnb46 := NB690_691.out; have hnc46 := NB691_690.out; obtain ⟨hcz47_0, hcz47_1, hcz47_2⟩ := MBlk.c3 BK690.out; obtain ⟨hfz47_0, hfz47_1, hfz47_2⟩ := MBlk.f3 BK690.out) | ((with_reducible refine gate_callee (f := 12) rfl ?_); refine sh_C 24 Tryd.func12 #[.int .i64 a0, .string a1, .agg #[.bool a2_0, .int .u64 a2_1, .int .u64 a2_2], .int .i64 a3] ?_; (with_reducible refine Calls.mono (excuse_Of.calls k a0 a1 a2_0 a2_1 a2_2 a3 t693 t694 _ A8.out ?hgl_) ?_); (case hgl_ => exact excuse_Glob_below HGL.out (sh_B HB)); rintro e w48 ⟨rfl, hb⟩; refine ⟨_, rfl, ?_⟩; replace BK690 := sh_L BK690 hb; replace BK691 := sh_L BK691 hb; replace HB := sh_S HB hb; (try clear hb); (try clear hb2); (try clear hk); (try clear hi)))
     go_ret
     exact ⟨by first | rfl | (simp [errW_none, errW_some] <;> rfl) | (simp [*, errW_none, errW_some] <;> rfl), by repeat (first | (with_reducible first | exact HB.out | apply below_alloc | apply pw_below_drewN | apply below_drew1 | refine below_set ?_ GE690.out | refine below_set ?_ GE691.out) | exact HB.out)⟩
   ·
    rw [if_neg c35] at H
    have c35b0 : (t693.toList == ([] : List UInt8)) = false := beq_eq_false_iff_ne.mpr c35
    have c35b1 : (t693.toList != ([] : List UInt8)) = true := bne_iff_ne.mpr c35
    exact absurd ((Option.some.inj H).trans HRT.out) (by decide)
  ·
   replace c34 := Bool.eq_false_iff.mpr c34
   subst c34
   rw [if_neg (show ¬ (false = true) by decide)] at H
   exact absurd ((Option.some.inj H).trans HRT.out) (by decide)

end Go.Proofs.YtaoopneiglgnkaaDoor.PBase
