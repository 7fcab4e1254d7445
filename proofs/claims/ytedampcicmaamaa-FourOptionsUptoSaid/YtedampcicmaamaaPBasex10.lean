/- Functions of the program as Lean functions, each with a proof that a call comes to what it says. Conditions: those of each theorem. Laid by a program of this session. -/
import Derived.Test.YtedampcicmaamaaPBasex0
import Derived.Test.YtedampcicmaamaaPBasex3
import Derived.Test.YtedampcicmaamaaPBasex7
import Derived.Test.YtedampcicmaamaaPBasex8
import Derived.Test.YtedampcicmaamaaPBasex9
namespace Go.Proofs.Ytedampcicmaamaa.PBase
open Go.RowKit Go.Proofs.Ytedampcicmaamaa Go.Proofs.YtedampcicmaamaaW.PrintWords Go.Proofs.YtedampcicmaamaaW.PrintLast Go.Proofs.YtedampcicmaamaaW.PrintMore
attribute [local go_sem] max2_int min2_int max_two min_two max_three min_three max_four min_four   -- for this text's walks alone
set_option linter.unusedVariables false
set_option linter.unusedSimpArgs false

/-! ### crosswaylaw06_FourOptions: function 5 -/
def crosswaylaw06_FourOptions.f (k : Nat) (a0 : ByteArray) : Option (Bool) := (crosswaylaw06_awake.f k).bind fun t215 => ((ip4_Options.f a0).bind fun bt216 => ((crosswayref06_Options.f k a0).bind fun bt220 => ((crosswaylaw06_same.f k bt216.1 bt220.1).bind fun t224 => ((ip4_Kept.f k a0).bind fun t225 => ((ip4_Options.f t225).bind fun bt226 => (if t215 = true then (if t224 = true then (if bt216.2 = bt220.2 then ((crosswayref06_Kept.f k a0).bind fun t230 => (if t225.toList = t230.toList then ((ip4_Kept.f k t225).bind fun t231 => (if t231.toList = t225.toList then (if ((t225.size : Int) % 4) = 0 then (some (bt226.2 == 0)) else (some false)) else (some false))) else (some false))) else (some false)) else (some false)) else (some false)))))))
theorem crosswaylaw06_FourOptions.mono : ∀ a0 k, LeO (crosswaylaw06_FourOptions.f k a0) (crosswaylaw06_FourOptions.f (k + 1) a0) := by
 intro a0 k
 unfold crosswaylaw06_FourOptions.f
 repeat' first
   | (with_reducible exact crosswaylaw06_awake.mono _)
   | (with_reducible exact crosswaylaw06_same.mono _ _ _)
   | (with_reducible exact crosswayref06_Kept.mono _ _)
   | (with_reducible exact crosswayref06_Options.mono _ _)
   | (with_reducible exact ip4_Kept.mono _ _)
   | (with_reducible exact LeO.refl _)
   | (with_reducible exact LeO.none _)
   | (with_reducible refine LeO.ite ?_ ?_)
   | (with_reducible refine LeO.bind ?_ (fun _ => ?_))
   | exact crosswaylaw06_awake.mono _
   | exact crosswaylaw06_same.mono _ _ _
   | exact crosswayref06_Kept.mono _ _
   | exact crosswayref06_Options.mono _ _
   | exact ip4_Kept.mono _ _
   | exact LeO.none _
   | refine LeO.ite ?_ ?_
   | refine LeO.bind ?_ (fun _ => ?_)
set_option maxHeartbeats 8000000 in
set_option maxRecDepth 100000 in
theorem crosswaylaw06_FourOptions.calls (k : Nat) (a0 : ByteArray) (r : Bool) (w : World) (h : crosswaylaw06_FourOptions.f k a0 = some r) (hrt : r = true) :
  Calls Try.prog 5 #[.string a0] w fun e w' => e = .returned (.bool r) ∧ Below w.heap.size w w' := by
 have HRT := Aside0.mk hrt
 clear hrt
 have HB := Aside0.mk (Below.refl w.heap.size w)
 have H : ((crosswaylaw06_awake.f k).bind fun t215 => ((ip4_Options.f a0).bind fun bt216 => ((crosswayref06_Options.f k a0).bind fun bt220 => ((crosswaylaw06_same.f k bt216.1 bt220.1).bind fun t224 => ((ip4_Kept.f k a0).bind fun t225 => ((ip4_Options.f t225).bind fun bt226 => (if t215 = true then (if t224 = true then (if bt216.2 = bt220.2 then ((crosswayref06_Kept.f k a0).bind fun t230 => (if t225.toList = t230.toList then ((ip4_Kept.f k t225).bind fun t231 => (if t231.toList = t225.toList then (if ((t225.size : Int) % 4) = 0 then (some (bt226.2 == 0)) else (some false)) else (some false))) else (some false))) else (some false)) else (some false)) else (some false)))))))) = some r := h
 clear h
 replace H := Option.bind_eq_some_iff.mp H
 obtain ⟨t215, A20, H⟩ := H
 have A2 := Aside0.mk A20
 clear A20
 replace H := Option.bind_eq_some_iff.mp H
 obtain ⟨⟨t216, t217⟩, A30, H⟩ := H
 replace H : ((crosswayref06_Options.f k a0).bind fun bt220 => ((crosswaylaw06_same.f k t216 bt220.1).bind fun t224 => ((ip4_Kept.f k a0).bind fun t225 => ((ip4_Options.f t225).bind fun bt226 => (if t215 = true then (if t224 = true then (if t217 = bt220.2 then ((crosswayref06_Kept.f k a0).bind fun t230 => (if t225.toList = t230.toList then ((ip4_Kept.f k t225).bind fun t231 => (if t231.toList = t225.toList then (if ((t225.size : Int) % 4) = 0 then (some (bt226.2 == 0)) else (some false)) else (some false))) else (some false))) else (some false)) else (some false)) else (some false)))))) = some r := H
 have A3 := Aside0.mk A30
 clear A30
 replace H := Option.bind_eq_some_iff.mp H
 obtain ⟨⟨t220, t221⟩, A40, H⟩ := H
 replace H : ((crosswaylaw06_same.f k t216 t220).bind fun t224 => ((ip4_Kept.f k a0).bind fun t225 => ((ip4_Options.f t225).bind fun bt226 => (if t215 = true then (if t224 = true then (if t217 = t221 then ((crosswayref06_Kept.f k a0).bind fun t230 => (if t225.toList = t230.toList then ((ip4_Kept.f k t225).bind fun t231 => (if t231.toList = t225.toList then (if ((t225.size : Int) % 4) = 0 then (some (bt226.2 == 0)) else (some false)) else (some false))) else (some false))) else (some false)) else (some false)) else (some false))))) = some r := H
 have A4 := Aside0.mk A40
 clear A40
 replace H := Option.bind_eq_some_iff.mp H
 obtain ⟨t224, A50, H⟩ := H
 have A5 := Aside0.mk A50
 clear A50
 replace H := Option.bind_eq_some_iff.mp H
 obtain ⟨t225, A60, H⟩ := H
 have A6 := Aside0.mk A60
 clear A60
 replace H := Option.bind_eq_some_iff.mp H
 obtain ⟨⟨t226, t227⟩, A70, H⟩ := H
 replace H : (if t215 = true then (if t224 = true then (if t217 = t221 then ((crosswayref06_Kept.f k a0).bind fun t230 => (if t225.toList = t230.toList then ((ip4_Kept.f k t225).bind fun t231 => (if t231.toList = t225.toList then (if ((t225.size : Int) % 4) = 0 then (some (t227 == 0)) else (some false)) else (some false))) else (some false))) else (some false)) else (some false)) else (some false)) = some r := H
 have A7 := Aside0.mk A70
 clear A70
 by_cases c8 : t215 = true
 ·
  subst c8
  rw [if_pos rfl] at H
  by_cases c9 : t224 = true
  ·
   subst c9
   rw [if_pos rfl] at H
   by_cases c10 : t217 = t221
   ·
    rw [if_pos c10] at H
    have c10b0 : (t217 == t221) = true := beq_iff_eq.mpr c10
    have c10b1 : (t217 != t221) = false := bne_eq_false_iff_eq.mpr c10
    clear c10
    replace H := Option.bind_eq_some_iff.mp H
    obtain ⟨t230, A110, H⟩ := H
    have A11 := Aside0.mk A110
    clear A110
    by_cases c12 : t225.toList = t230.toList
    ·
     rw [if_pos c12] at H
     have c12b0 : (t225.toList == t230.toList) = true := beq_iff_eq.mpr c12
     have c12b1 : (t225.toList != t230.toList) = false := bne_eq_false_iff_eq.mpr c12
     clear c12
     replace H := Option.bind_eq_some_iff.mp H
     obtain ⟨t231, A130, H⟩ := H
     have A13 := Aside0.mk A130
     clear A130
     by_cases c14 : t231.toList = t225.toList
     ·
      rw [if_pos c14] at H
      have c14b0 : (t231.toList == t225.toList) = true := beq_iff_eq.mpr c14
      have c14b1 : (t231.toList != t225.toList) = false := bne_eq_false_iff_eq.mpr c14
      clear c14
      by_cases c15 : ((t225.size : Int) % 4) = 0
      ·
       rw [if_pos c15] at H
       have c15b0 : (((t225.size : Int) % 4) == 0) = true := beq_iff_eq.mpr c15
       have c15b1 : (((t225.size : Int) % 4) != 0) = false := bne_eq_false_iff_eq.mpr c15
       clear c15
       obtain rfl := Option.some.inj H
       go_enter Try.func5, Try.ntmps5
       go_wp2_with (first | ((with_reducible refine gate_callee (f := 8) rfl ?_); refine sh_C 12 Try.func8 #[] ?_; (with_reducible refine (crosswaylaw06_awake.calls k  true _ A2.out).mono ?_); rintro e w16 ⟨rfl, hb⟩; refine ⟨_, rfl, ?_⟩; replace HB := sh_S HB hb; (try clear hb); (try clear hb2); (try clear hk); (try clear hi)) | ((with_reducible refine gate_callee (f := 15) rfl ?_); refine sh_C 15 Try.func15 #[.string a0] ?_; (with_reducible refine (ip4_Options.calls a0 t216 t217 _ A3.out).mono ?_); rintro e w17 ⟨v218, rfl, ho0, hb⟩; refine ⟨_, rfl, ?_⟩; have HO219 := Aside0.mk (Kd.R_lower ho0 (below_size (sh_B HB))); replace HB := sh_S HB hb; (try clear hb); (try clear hb2); (try clear hk); (try clear hi); (try clear ho0)) | ((with_reducible refine gate_callee (f := 16) rfl ?_); refine sh_C 20 Try.func16 #[.string a0] ?_; (with_reducible refine (crosswayref06_Options.calls k a0 t220 t221 _ A4.out).mono ?_); rintro e w18 ⟨v222, rfl, ho0, hb⟩; refine ⟨_, rfl, ?_⟩; have n0_ := Aside0.mk (Kd.R_elder' (by (with_reducible repeat (first | apply Kd.R_alloc | apply Kd.R_drewN | apply Kd.R_drew)); exact HO219.out) (Kd.R_base ho0) hb); have n1_ := Aside0.mk (Kd.R_lower (Kd.R_new' ho0 (Kd.R_lt (by (with_reducible repeat (first | apply Kd.R_alloc | apply Kd.R_drewN | apply Kd.R_drew)); exact HO219.out))) (below_size (sh_B HB))); have n2_ := sh_S HB hb; clear HO219; clear HB; have HO219 := n0_; have HO223 := n1_; have HB := n2_; clear n0_ n1_ n2_; (try clear hb); (try clear hb2); (try clear hk); (try clear hi); (try clear ho0); obtain ⟨Ao19, co19, eo19⟩ := Kd.R_slice HO219.out; subst eo19; obtain ⟨Ao20, co20, eo20⟩ := Kd.R_slice HO223.out; subst eo20) | ((with_reducible refine gate_callee (f := 17) rfl ?_); refine sh_C 25 Try.func17 #[.slice Ao19 t216.length co19, .slice Ao20 t220.length co20] ?_; (with_reducible refine (crosswaylaw06_same.calls k _ _ t216 _ _ t220 true _ ?side1 ?side2 ?side3 ?side4 A5.out).mono ?_); (case side1 => repeat (first | exact (Kd.R_reads' HO219.out).2.2 | (with_reducible refine Kd.C_alloc ?_ _) | (with_reducible refine Kd.C_drewN ?_ _) | (with_reducible refine Kd.C_drew ?_))); (case side2 => exact (Kd.R_reads' HO219.out).2.1); (case side3 => repeat (first | exact (Kd.R_reads' HO223.out).2.2 | (with_reducible refine Kd.C_alloc ?_ _) | (with_reducible refine Kd.C_drewN ?_ _) | (with_reducible refine Kd.C_drew ?_))); (case side4 => exact (Kd.R_reads' HO223.out).2.1); rintro e w' ⟨rfl, ⟨nd, rfl⟩⟩; refine ⟨_, rfl, ?_⟩) | ((with_reducible refine gate_callee (f := 18) rfl ?_); refine sh_C 27 Try.func18 #[.string a0] ?_; (with_reducible refine (ip4_Kept.calls k a0 t225 _ A6.out).mono ?_); rintro e w21 ⟨rfl, hb⟩; refine ⟨_, rfl, ?_⟩; have n0_ := Aside0.mk (Kd.R_below (by (with_reducible repeat (first | apply Kd.R_alloc | apply Kd.R_drewN | apply Kd.R_drew)); exact HO219.out) hb); have n1_ := Aside0.mk (Kd.R_below (by (with_reducible repeat (first | apply Kd.R_alloc | apply Kd.R_drewN | apply Kd.R_drew)); exact HO223.out) hb); have n2_ := sh_S HB hb; clear HO219; clear HO223; clear HB; have HO219 := n0_; have HO223 := n1_; have HB := n2_; clear n0_ n1_ n2_; (try clear hb); (try clear hb2); (try clear hk); (try clear hi)) | ((with_reducible refine gate_callee (f := 15) rfl ?_); refine sh_C 30 Try.func15 #[.string t225] ?_; (with_reducible refine (ip4_Options.calls t225 t226 t227 _ A7.out).mono ?_); rintro e w22 ⟨v228, rfl, ho0, hb⟩; refine ⟨_, rfl, ?_⟩; have n0_ := Aside0.mk (Kd.R_elder' (by (with_reducible repeat (first | apply Kd.R_alloc | apply Kd.R_drewN | apply Kd.R_drew)); exact HO219.out) (Kd.R_base ho0) hb); have n1_ := Aside0.mk (Kd.R_elder' (by (with_reducible repeat (first | apply Kd.R_alloc | apply Kd.R_drewN | apply Kd.R_drew)); exact HO223.out) (Kd.R_base ho0) hb); have n2_ := Aside0.mk (Kd.R_lower (Kd.R_new' (Kd.R_new' ho0 (Kd.R_lt (by (with_reducible repeat (first | apply Kd.R_alloc | apply Kd.R_drewN | apply Kd.R_drew)); exact HO219.out))) (Kd.R_lt (by (with_reducible repeat (first | apply Kd.R_alloc | apply Kd.R_drewN | apply Kd.R_drew)); exact HO223.out))) (below_size (sh_B HB))); have n3_ := sh_S HB hb; clear HO219; clear HO223; clear HB; have HO219 := n0_; have HO223 := n1_; have HO229 := n2_; have HB := n3_; clear n0_ n1_ n2_ n3_; (try clear hb); (try clear hb2); (try clear hk); (try clear hi); (try clear ho0)) | (go_at_call 19; (with_reducible refine (crosswayref06_Kept.calls k a0 t230 _ A11.out).mono ?_); rintro e w23 ⟨rfl, hb⟩; have n0_ := Aside0.mk (Kd.R_below (by (with_reducible repeat (first | apply Kd.R_alloc | apply Kd.R_drewN | apply Kd.R_drew)); exact HO219.out) hb); have n1_ := Aside0.mk (Kd.R_below (by (with_reducible repeat (first | apply Kd.R_alloc | apply Kd.R_drewN | apply Kd.R_drew)); exact HO223.out) hb); have n2_ := Aside0.mk (Kd.R_below (by (with_reducible repeat (first | apply Kd.R_alloc | apply Kd.R_drewN | apply Kd.R_drew)); exact HO229.out) hb); have n3_ := sh_S HB hb; clear HO219; clear HO223; clear HO229; clear HB; have HO219 := n0_; have HO223 := n1_; have HO229 := n2_; have HB := n3_; clear n0_ n1_ n2_ n3_; (try clear hb); (try clear hb2); (try clear hk); (try clear hi)) | (go_at_call 18; (with_reducible refine (ip4_Kept.calls k t225 t231 _ A13.out).mono ?_); rintro e w24 ⟨rfl, hb⟩; have n0_ := Aside0.mk (Kd.R_below (by (with_reducible repeat (first | apply Kd.R_alloc | apply Kd.R_drewN | apply Kd.R_drew)); exact HO219.out) hb); have n1_ := Aside0.mk (Kd.R_below (by (with_reducible repeat (first | apply Kd.R_alloc | apply Kd.R_drewN | apply Kd.R_drew)); exact HO223.out) hb); have n2_ := Aside0.mk (Kd.R_below (by (with_reducible repeat (first | apply Kd.R_alloc | apply Kd.R_drewN | apply Kd.R_drew)); exact HO229.out) hb); have n3_ := sh_S HB hb; clear HO219; clear HO223; clear HO229; clear HB; have HO219 := n0_; have HO223 := n1_; have HO229 := n2_; have HB := n3_; clear n0_ n1_ n2_ n3_; (try clear hb); (try clear hb2); (try clear hk); (try clear hi)))
       go_ret
       exact ⟨by first | rfl | (simp [errW_none, errW_some] <;> rfl) | (simp [*, errW_none, errW_some] <;> rfl), by repeat (first | (with_reducible first | exact HB.out | apply below_alloc | apply pw_below_drewN | apply below_drew1) | exact HB.out)⟩
      ·
       rw [if_neg c15] at H
       have c15b0 : (((t225.size : Int) % 4) == 0) = false := beq_eq_false_iff_ne.mpr c15
       have c15b1 : (((t225.size : Int) % 4) != 0) = true := bne_iff_ne.mpr c15
       exact absurd ((Option.some.inj H).trans HRT.out) (by decide)
     ·
      rw [if_neg c14] at H
      have c14b0 : (t231.toList == t225.toList) = false := beq_eq_false_iff_ne.mpr c14
      have c14b1 : (t231.toList != t225.toList) = true := bne_iff_ne.mpr c14
      exact absurd ((Option.some.inj H).trans HRT.out) (by decide)
    ·
     rw [if_neg c12] at H
     have c12b0 : (t225.toList == t230.toList) = false := beq_eq_false_iff_ne.mpr c12
     have c12b1 : (t225.toList != t230.toList) = true := bne_iff_ne.mpr c12
     exact absurd ((Option.some.inj H).trans HRT.out) (by decide)
   ·
    rw [if_neg c10] at H
    have c10b0 : (t217 == t221) = false := beq_eq_false_iff_ne.mpr c10
    have c10b1 : (t217 != t221) = true := bne_iff_ne.mpr c10
    exact absurd ((Option.some.inj H).trans HRT.out) (by decide)
  ·
   replace c9 := Bool.eq_false_iff.mpr c9
   subst c9
   rw [if_neg (show ¬ (false = true) by decide)] at H
   exact absurd ((Option.some.inj H).trans HRT.out) (by decide)
 ·
  replace c8 := Bool.eq_false_iff.mpr c8
  subst c8
  rw [if_neg (show ¬ (false = true) by decide)] at H
  exact absurd ((Option.some.inj H).trans HRT.out) (by decide)

end Go.Proofs.Ytedampcicmaamaa.PBase
