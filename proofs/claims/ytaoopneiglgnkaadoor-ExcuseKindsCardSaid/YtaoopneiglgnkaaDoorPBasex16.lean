/- Functions of the program as Lean functions, each with a proof that a call comes to what it says. Conditions: those of each theorem. Laid by a program of this session. -/
import Derived.Test.YtaoopneiglgnkaaDoorPBasex0
import Derived.Test.YtaoopneiglgnkaaDoorPBasex5
import Derived.Test.YtaoopneiglgnkaaDoorPBasex14
import Derived.Test.YtaoopneiglgnkaaDoorPBasex15
namespace Go.Proofs.YtaoopneiglgnkaaDoor.PBase
open Go.RowKit Go.Proofs.YtaoopneiglgnkaaDoor Go.Proofs.YtaoopneiglgnkaaDoorW.PrintWords Go.Proofs.YtaoopneiglgnkaaDoorW.PrintLast Go.Proofs.YtaoopneiglgnkaaDoorW.PrintMore
attribute [local go_sem] max2_int min2_int max_two min_two max_three min_three max_four min_four   -- for this text's walks alone
set_option linter.unusedVariables false
set_option linter.unusedSimpArgs false

/-! ### crosswaylaw20_ExcuseKinds: function 3 -/
def crosswaylaw20_ExcuseKinds.f (k : Nat) (a0 : Int) (a1 : Bool) : Option (Bool) := (crosswaylaw20_awake.f k).bind fun t326 => ((excuse_Kind.f a0 a1).bind fun bt327 => ((crosswayref20_Kind.f a0 a1).bind fun bt330 => (if t326 = true then (if bt327.1 = bt330.1 then (if bt327.2.1 = bt330.2.1 then (some (bt327.2.2 == bt330.2.2)) else (some false)) else (some false)) else (some false))))
theorem crosswaylaw20_ExcuseKinds.mono : ∀ a0 a1 k, LeO (crosswaylaw20_ExcuseKinds.f k a0 a1) (crosswaylaw20_ExcuseKinds.f (k + 1) a0 a1) := by
 intro a0 a1 k
 unfold crosswaylaw20_ExcuseKinds.f
 repeat' first
   | (with_reducible exact crosswaylaw20_awake.mono _)
   | (with_reducible exact LeO.refl _)
   | (with_reducible exact LeO.none _)
   | (with_reducible refine LeO.ite ?_ ?_)
   | (with_reducible refine LeO.bind ?_ (fun _ => ?_))
   | exact crosswaylaw20_awake.mono _
   | exact LeO.none _
   | refine LeO.ite ?_ ?_
   | refine LeO.bind ?_ (fun _ => ?_)
set_option maxHeartbeats 8000000 in
set_option maxRecDepth 100000 in
theorem crosswaylaw20_ExcuseKinds.calls (k : Nat) (a0 : Int) (a1 : Bool) (r : Bool) (w : World) (h : crosswaylaw20_ExcuseKinds.f k a0 a1 = some r) (hrt : r = true) (hg : excuse_Glob w) :
  Calls Tryd.prog 3 #[.int .i64 a0, .bool a1] w fun e w' => e = .returned (.bool r) ∧ Below w.heap.size w w' := by
 have HGL := Aside0.mk hg
 clear hg
 have HRT := Aside0.mk hrt
 clear hrt
 have HB := Aside0.mk (Below.refl w.heap.size w)
 have H : ((crosswaylaw20_awake.f k).bind fun t326 => ((excuse_Kind.f a0 a1).bind fun bt327 => ((crosswayref20_Kind.f a0 a1).bind fun bt330 => (if t326 = true then (if bt327.1 = bt330.1 then (if bt327.2.1 = bt330.2.1 then (some (bt327.2.2 == bt330.2.2)) else (some false)) else (some false)) else (some false))))) = some r := h
 clear h
 replace H := Option.bind_eq_some_iff.mp H
 obtain ⟨t326, A30, H⟩ := H
 have A3 := Aside0.mk A30
 clear A30
 replace H := Option.bind_eq_some_iff.mp H
 obtain ⟨⟨t327, t328, t329⟩, A40, H⟩ := H
 replace H : ((crosswayref20_Kind.f a0 a1).bind fun bt330 => (if t326 = true then (if t327 = bt330.1 then (if t328 = bt330.2.1 then (some (t329 == bt330.2.2)) else (some false)) else (some false)) else (some false))) = some r := H
 have A4 := Aside0.mk A40
 clear A40
 replace H := Option.bind_eq_some_iff.mp H
 obtain ⟨⟨t330, t331, t332⟩, A50, H⟩ := H
 replace H : (if t326 = true then (if t327 = t330 then (if t328 = t331 then (some (t329 == t332)) else (some false)) else (some false)) else (some false)) = some r := H
 have A5 := Aside0.mk A50
 clear A50
 by_cases c6 : t326 = true
 ·
  subst c6
  rw [if_pos rfl] at H
  by_cases c7 : t327 = t330
  ·
   rw [if_pos c7] at H
   have c7b0 : (t327 == t330) = true := beq_iff_eq.mpr c7
   have c7b1 : (t327 != t330) = false := bne_eq_false_iff_eq.mpr c7
   clear c7
   by_cases c8 : t328 = t331
   ·
    rw [if_pos c8] at H
    have c8b0 : (t328 == t331) = true := beq_iff_eq.mpr c8
    have c8b1 : (t328 != t331) = false := bne_eq_false_iff_eq.mpr c8
    clear c8
    obtain rfl := Option.some.inj H
    go_enter Tryd.func3, Tryd.ntmps3
    go_wp2_with (first | ((with_reducible refine gate_callee (f := 9) rfl ?_); refine goesL_ (some 12) rfl rfl Tryd.func9 (by kernel_rfl) rfl #[] rfl (by (try simp only [List.map_toArray, List.map_cons, List.map_nil]); first | done | rfl | (simp only [List.length_drop, List.length_take]; rfl)) ?_; (with_reducible refine Calls.mono (crosswaylaw20_awake.calls k  true _ A3.out ?hgl_) ?_); (case hgl_ => exact excuse_Glob_below HGL.out (by repeat (first | (with_reducible first | exact HB.out | apply below_alloc | apply pw_below_drewN | apply below_drew1) | exact HB.out))); rintro e w9 ⟨rfl, hb⟩; refine ⟨_, rfl, ?_⟩; have n0_ := Aside0.mk (below_step (by repeat (first | (with_reducible first | exact HB.out | apply below_alloc | apply pw_below_drewN | apply below_drew1) | exact HB.out)) hb); clear HB; have HB := n0_; clear n0_; (try clear hb); (try clear hb2); (try clear hk); (try clear hi)) | ((with_reducible refine gate_callee (f := 10) rfl ?_); refine goesL_ (some 16) rfl rfl Tryd.func10 (by kernel_rfl) rfl #[.int .i64 a0, .bool a1] rfl (by (try simp only [List.map_toArray, List.map_cons, List.map_nil]); first | done | rfl | (simp only [List.length_drop, List.length_take]; rfl)) ?_; (with_reducible refine Calls.mono (excuse_Kind.calls a0 a1 t327 t328 t329 _ A4.out ?hgl_) ?_); (case hgl_ => exact excuse_Glob_below HGL.out (by repeat (first | (with_reducible first | exact HB.out | apply below_alloc | apply pw_below_drewN | apply below_drew1) | exact HB.out))); rintro e w10 ⟨rfl, hb⟩; refine ⟨_, rfl, ?_⟩; have n0_ := Aside0.mk (below_step (by repeat (first | (with_reducible first | exact HB.out | apply below_alloc | apply pw_below_drewN | apply below_drew1) | exact HB.out)) hb); clear HB; have HB := n0_; clear n0_; (try clear hb); (try clear hb2); (try clear hk); (try clear hi)) | ((with_reducible refine gate_callee (f := 11) rfl ?_); refine goesL_ (some 23) rfl rfl Tryd.func11 (by kernel_rfl) rfl #[.int .i64 a0, .bool a1] rfl (by (try simp only [List.map_toArray, List.map_cons, List.map_nil]); first | done | rfl | (simp only [List.length_drop, List.length_take]; rfl)) ?_; (with_reducible refine (crosswayref20_Kind.calls a0 a1 t330 t331 t332 _ A5.out).mono ?_); rintro e w' ⟨rfl, ⟨nd, rfl⟩⟩; refine ⟨_, rfl, ?_⟩))
    go_ret
    exact ⟨by first | rfl | (simp [errW_none, errW_some] <;> rfl) | (simp [*, errW_none, errW_some] <;> rfl), by repeat (first | (with_reducible first | exact HB.out | apply below_alloc | apply pw_below_drewN | apply below_drew1) | exact HB.out)⟩
   ·
    rw [if_neg c8] at H
    have c8b0 : (t328 == t331) = false := beq_eq_false_iff_ne.mpr c8
    have c8b1 : (t328 != t331) = true := bne_iff_ne.mpr c8
    exact absurd ((Option.some.inj H).trans HRT.out) (by decide)
  ·
   rw [if_neg c7] at H
   have c7b0 : (t327 == t330) = false := beq_eq_false_iff_ne.mpr c7
   have c7b1 : (t327 != t330) = true := bne_iff_ne.mpr c7
   exact absurd ((Option.some.inj H).trans HRT.out) (by decide)
 ·
  replace c6 := Bool.eq_false_iff.mpr c6
  subst c6
  rw [if_neg (show ¬ (false = true) by decide)] at H
  exact absurd ((Option.some.inj H).trans HRT.out) (by decide)

end Go.Proofs.YtaoopneiglgnkaaDoor.PBase
