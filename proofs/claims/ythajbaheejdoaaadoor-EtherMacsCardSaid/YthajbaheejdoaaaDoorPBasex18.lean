/- Functions of the program as Lean functions, each with a proof that a call comes to what it says. Conditions: those of each theorem. Laid by a program of this session. -/
import Derived.Test.YthajbaheejdoaaaDoorPBasex0
import Derived.Test.YthajbaheejdoaaaDoorPBasex7
import Derived.Test.YthajbaheejdoaaaDoorPBasex9
import Derived.Test.YthajbaheejdoaaaDoorPBasex17
namespace Go.Proofs.YthajbaheejdoaaaDoor.PBase
open Go.RowKit Go.Proofs.YthajbaheejdoaaaDoor Go.Proofs.YthajbaheejdoaaaDoorW.PrintWords Go.Proofs.YthajbaheejdoaaaDoorW.PrintLast Go.Proofs.YthajbaheejdoaaaDoorW.PrintMore
attribute [local go_sem] max2_int min2_int max_two min_two max_three min_three max_four min_four   -- for this text's walks alone
set_option linter.unusedVariables false
set_option linter.unusedSimpArgs false

/-! ### crosswaylaw05_EtherMacs: function 8 -/
def crosswaylaw05_EtherMacs.j0 : Nat → Int → Bool → ByteArray → Bool → Option (Bool)
 | 0, _, _, _, _ => none
 | k + 1, x1, x5, x10, x39 => if x39 = true then (some false) else (if x10.toList = ([] : List UInt8) then (if x5 = true then (some (decide (x1 ≥ 281474976710656))) else (some false)) else ((ether_ParseMac.f k x10).bind fun bt434 => (if x5 = true then (if bt434.2 = 0 then (some (bt434.1 == x1)) else (some false)) else (some false))))
def crosswaylaw05_EtherMacs.f (k : Nat) (a0 : ByteArray) (a1 : Int) : Option (Bool) := (crosswaylaw05_awake.f k).bind fun t427 => ((ether_ParseMac.f k a0).bind fun bt428 => ((crosswayref05_ParseMac.f k a0).bind fun bt430 => ((ether_PrintMac.f k a1).bind fun t432 => (if bt428.1 = bt430.1 then (if bt428.2 = bt430.2 then ((crosswayref05_PrintMac.f k a1).bind fun t433 => (crosswaylaw05_EtherMacs.j0 k a1 t427 t432 (t432.toList != t433.toList))) else (crosswaylaw05_EtherMacs.j0 k a1 t427 t432 true)) else (crosswaylaw05_EtherMacs.j0 k a1 t427 t432 true)))))
theorem crosswaylaw05_EtherMacs.mono_l : ∀ k, (∀ y0 y1 y2 y3, LeO (crosswaylaw05_EtherMacs.j0 k y0 y1 y2 y3) (crosswaylaw05_EtherMacs.j0 (k + 1) y0 y1 y2 y3))
 | 0 => fun _ _ _ _ r h => by simp [crosswaylaw05_EtherMacs.j0] at h
 | k + 1 => by
  have ih0 := crosswaylaw05_EtherMacs.mono_l k
  ·
   intro y0 y1 y2 y3
   unfold crosswaylaw05_EtherMacs.j0
   repeat' first
   | (with_reducible exact ih0 _ _ _ _)
   | (with_reducible exact crosswaylaw05_awake.mono _)
   | (with_reducible exact crosswayref05_ParseMac.mono _ _)
   | (with_reducible exact crosswayref05_PrintMac.mono _ _)
   | (with_reducible exact ether_ParseMac.mono _ _)
   | (with_reducible exact ether_PrintMac.mono _ _)
   | (with_reducible exact LeO.refl _)
   | (with_reducible exact LeO.none _)
   | (with_reducible refine LeO.ite ?_ ?_)
   | (with_reducible refine LeO.bind ?_ (fun _ => ?_))
   | exact ih0 _ _ _ _
   | exact crosswaylaw05_awake.mono _
   | exact crosswayref05_ParseMac.mono _ _
   | exact crosswayref05_PrintMac.mono _ _
   | exact ether_ParseMac.mono _ _
   | exact ether_PrintMac.mono _ _
   | exact LeO.none _
   | refine LeO.ite ?_ ?_
   | refine LeO.bind ?_ (fun _ => ?_)
theorem crosswaylaw05_EtherMacs.mono : ∀ a0 a1 k, LeO (crosswaylaw05_EtherMacs.f k a0 a1) (crosswaylaw05_EtherMacs.f (k + 1) a0 a1) := by
 intro a0 a1 k
 have ih0 := crosswaylaw05_EtherMacs.mono_l k
 unfold crosswaylaw05_EtherMacs.f
 repeat' first
   | (with_reducible exact ih0 _ _ _ _)
   | (with_reducible exact crosswaylaw05_awake.mono _)
   | (with_reducible exact crosswayref05_ParseMac.mono _ _)
   | (with_reducible exact crosswayref05_PrintMac.mono _ _)
   | (with_reducible exact ether_ParseMac.mono _ _)
   | (with_reducible exact ether_PrintMac.mono _ _)
   | (with_reducible exact LeO.refl _)
   | (with_reducible exact LeO.none _)
   | (with_reducible refine LeO.ite ?_ ?_)
   | (with_reducible refine LeO.bind ?_ (fun _ => ?_))
   | exact ih0 _ _ _ _
   | exact crosswaylaw05_awake.mono _
   | exact crosswayref05_ParseMac.mono _ _
   | exact crosswayref05_PrintMac.mono _ _
   | exact ether_ParseMac.mono _ _
   | exact ether_PrintMac.mono _ _
   | exact LeO.none _
   | refine LeO.ite ?_ ?_
   | refine LeO.bind ?_ (fun _ => ?_)
set_option maxHeartbeats 8000000 in
set_option maxRecDepth 100000 in
theorem crosswaylaw05_EtherMacs.calls (k : Nat) (a0 : ByteArray) (a1 : Int) (r : Bool) (w : World) (h : crosswaylaw05_EtherMacs.f k a0 a1 = some r) (hrt : r = true) (hg : ether_Glob w) :
  Calls Tryd.prog 8 #[.string a0, .int .u64 a1] w fun e w' => e = .returned (.bool r) ∧ Below w.heap.size w w' := by
 have HGL := Aside0.mk hg
 clear hg
 have HRT := Aside0.mk hrt
 clear hrt
 have HB := Aside0.mk (Below.refl w.heap.size w)
 have H : ((crosswaylaw05_awake.f k).bind fun t427 => ((ether_ParseMac.f k a0).bind fun bt428 => ((crosswayref05_ParseMac.f k a0).bind fun bt430 => ((ether_PrintMac.f k a1).bind fun t432 => (if bt428.1 = bt430.1 then (if bt428.2 = bt430.2 then ((crosswayref05_PrintMac.f k a1).bind fun t433 => (crosswaylaw05_EtherMacs.j0 k a1 t427 t432 (t432.toList != t433.toList))) else (crosswaylaw05_EtherMacs.j0 k a1 t427 t432 true)) else (crosswaylaw05_EtherMacs.j0 k a1 t427 t432 true)))))) = some r := h
 clear h
 replace H := Option.bind_eq_some_iff.mp H
 obtain ⟨t427, A30, H⟩ := H
 have A3 := Aside0.mk A30
 clear A30
 replace H := Option.bind_eq_some_iff.mp H
 obtain ⟨⟨t428, t429⟩, A40, H⟩ := H
 replace H : ((crosswayref05_ParseMac.f k a0).bind fun bt430 => ((ether_PrintMac.f k a1).bind fun t432 => (if t428 = bt430.1 then (if t429 = bt430.2 then ((crosswayref05_PrintMac.f k a1).bind fun t433 => (crosswaylaw05_EtherMacs.j0 k a1 t427 t432 (t432.toList != t433.toList))) else (crosswaylaw05_EtherMacs.j0 k a1 t427 t432 true)) else (crosswaylaw05_EtherMacs.j0 k a1 t427 t432 true)))) = some r := H
 have A4 := Aside0.mk A40
 clear A40
 replace H := Option.bind_eq_some_iff.mp H
 obtain ⟨⟨t430, t431⟩, A50, H⟩ := H
 replace H : ((ether_PrintMac.f k a1).bind fun t432 => (if t428 = t430 then (if t429 = t431 then ((crosswayref05_PrintMac.f k a1).bind fun t433 => (crosswaylaw05_EtherMacs.j0 k a1 t427 t432 (t432.toList != t433.toList))) else (crosswaylaw05_EtherMacs.j0 k a1 t427 t432 true)) else (crosswaylaw05_EtherMacs.j0 k a1 t427 t432 true))) = some r := H
 have A5 := Aside0.mk A50
 clear A50
 replace H := Option.bind_eq_some_iff.mp H
 obtain ⟨t432, A60, H⟩ := H
 have A6 := Aside0.mk A60
 clear A60
 have HC7 := Aside0.mk H
 clear H
 go_enter Tryd.func8, Tryd.ntmps8
 go_upto_region 5 with (first | ((with_reducible refine gate_callee (f := 10) rfl ?_); refine goesL_ (some 13) rfl rfl Tryd.func10 (by kernel_rfl) rfl #[] rfl (by (try simp only [List.map_toArray, List.map_cons, List.map_nil]); first | done | rfl | (simp only [List.length_drop, List.length_take]; rfl)) ?_; (with_reducible refine Calls.mono (crosswaylaw05_awake.calls k  t427 _ A3.out ?hgl_) ?_); (case hgl_ => exact ether_Glob_below HGL.out (by repeat (first | (with_reducible first | exact HB.out | apply below_alloc | apply pw_below_drewN | apply below_drew1) | exact HB.out))); rintro e w8 ⟨rfl, hb⟩; refine ⟨_, rfl, ?_⟩; have n0_ := Aside0.mk (below_step (by repeat (first | (with_reducible first | exact HB.out | apply below_alloc | apply pw_below_drewN | apply below_drew1) | exact HB.out)) hb); clear HB; have HB := n0_; clear n0_; (try clear hb); (try clear hb2); (try clear hk); (try clear hi)) | ((with_reducible refine gate_callee (f := 19) rfl ?_); refine goesL_ (some 16) rfl rfl Tryd.func19 (by kernel_rfl) rfl #[.string a0] rfl (by (try simp only [List.map_toArray, List.map_cons, List.map_nil]); first | done | rfl | (simp only [List.length_drop, List.length_take]; rfl)) ?_; (with_reducible refine (ether_ParseMac.calls k a0 t428 t429 _ A4.out).mono ?_); rintro e w9 ⟨rfl, hb⟩; refine ⟨_, rfl, ?_⟩; have n0_ := Aside0.mk (below_step (by repeat (first | (with_reducible first | exact HB.out | apply below_alloc | apply pw_below_drewN | apply below_drew1) | exact HB.out)) hb); clear HB; have HB := n0_; clear n0_; (try clear hb); (try clear hb2); (try clear hk); (try clear hi)) | ((with_reducible refine gate_callee (f := 20) rfl ?_); refine goesL_ (some 21) rfl rfl Tryd.func20 (by kernel_rfl) rfl #[.string a0] rfl (by (try simp only [List.map_toArray, List.map_cons, List.map_nil]); first | done | rfl | (simp only [List.length_drop, List.length_take]; rfl)) ?_; (with_reducible refine (crosswayref05_ParseMac.calls k a0 t430 t431 _ A5.out).mono ?_); rintro e w' ⟨rfl, ⟨nd, rfl⟩⟩; refine ⟨_, rfl, ?_⟩) | ((with_reducible refine gate_callee (f := 21) rfl ?_); refine goesL_ (some 25) rfl rfl Tryd.func21 (by kernel_rfl) rfl #[.int .u64 a1] rfl (by (try simp only [List.map_toArray, List.map_cons, List.map_nil]); first | done | rfl | (simp only [List.length_drop, List.length_take]; rfl)) ?_; (with_reducible refine (ether_PrintMac.calls k a1 t432 _ A6.out).mono ?_); rintro e w10 ⟨rfl, hb⟩; refine ⟨_, rfl, ?_⟩; have n0_ := Aside0.mk (below_step (by repeat (first | (with_reducible first | exact HB.out | apply below_alloc | apply pw_below_drewN | apply below_drew1) | exact HB.out)) hb); clear HB; have HB := n0_; clear n0_; (try clear hb); (try clear hb2); (try clear hk); (try clear hi)))
 (try simp only [Act.put, List.setIfInBounds_toArray, List.set_cons_zero, List.set_cons_succ])
 go_cut [39] (fun v39 wc => ∃ (kq : Nat) (x39_6 : Bool), v39 = .bool x39_6 ∧ Aside0 (crosswaylaw05_EtherMacs.j0 kq a1 t427 t432 x39_6 = some r) ∧ Aside0 (kq ≤ k) ∧ Aside0 (Below w.heap.size w wc))
 case first =>
  have H := HC7.out
  clear HC7
  by_cases c11 : t428 = t430
  ·
   rw [if_pos c11] at H
   have c11b0 : (t428 == t430) = true := beq_iff_eq.mpr c11
   have c11b1 : (t428 != t430) = false := bne_eq_false_iff_eq.mpr c11
   clear c11
   (first | rw [c11b0] | (simp only [i64_w, i32_w]; rw [c11b0]) | skip)
   by_cases c12 : t429 = t431
   ·
    rw [if_pos c12] at H
    have c12b0 : (t429 == t431) = true := beq_iff_eq.mpr c12
    have c12b1 : (t429 != t431) = false := bne_eq_false_iff_eq.mpr c12
    clear c12
    replace H := Option.bind_eq_some_iff.mp H
    obtain ⟨t433, A130, H⟩ := H
    have A13 := Aside0.mk A130
    clear A130
    have H' := Aside0.mk H
    clear H
    go_wp2_with (first | (go_at_call 22; (with_reducible refine (crosswayref05_PrintMac.calls k a1 t433 _ A13.out).mono ?_); rintro e w14 ⟨rfl, hb⟩; have n0_ := Aside0.mk (below_step (by repeat (first | (with_reducible first | exact HB.out | apply below_alloc | apply pw_below_drewN | apply below_drew1) | exact HB.out)) hb); clear HB; have HB := n0_; clear n0_; (try clear hb); (try clear hb2); (try clear hk); (try clear hi)))
    go_meet
    case rel => exact ⟨_, ((t432.toList != t433.toList)), (by first | rfl | (simp; done) | (simp [*]; done)), H', ⟨by first | omega | exact Nat.le_refl _⟩, ⟨by repeat (first | (with_reducible first | exact HB.out | apply below_alloc | apply pw_below_drewN | apply below_drew1) | exact HB.out)⟩⟩
   ·
    rw [if_neg c12] at H
    have c12b0 : (t429 == t431) = false := beq_eq_false_iff_ne.mpr c12
    have c12b1 : (t429 != t431) = true := bne_iff_ne.mpr c12
    have H' := Aside0.mk H
    clear H
    go_wp2
    go_meet
    case rel => exact ⟨_, (true), (by first | rfl | (simp; done) | (simp [*]; done)), H', ⟨by first | omega | exact Nat.le_refl _⟩, ⟨by repeat (first | (with_reducible first | exact HB.out | apply below_alloc | apply pw_below_drewN | apply below_drew1) | exact HB.out)⟩⟩
  ·
   rw [if_neg c11] at H
   have c11b0 : (t428 == t430) = false := beq_eq_false_iff_ne.mpr c11
   have c11b1 : (t428 != t430) = true := bne_iff_ne.mpr c11
   (first | rw [c11b0] | (simp only [i64_w, i32_w]; rw [c11b0]) | skip)
   have H' := Aside0.mk H
   clear H
   go_wp2
   go_meet
   case rel => exact ⟨_, (true), (by first | rfl | (simp; done) | (simp [*]; done)), H', ⟨by first | omega | exact Nat.le_refl _⟩, ⟨by repeat (first | (with_reducible first | exact HB.out | apply below_alloc | apply pw_below_drewN | apply below_drew1) | exact HB.out)⟩⟩
 case rest =>
  clear HC7
  try clear c1
  try clear c2
  try clear p2
  try clear c8
  try clear c10
  try clear c11
  try clear c11b0
  try clear c11b1
  try clear c12
  try clear c12b0
  try clear c12b1
  obtain ⟨kq, x39_6, rfl, HA, HJ6, HB⟩ := hcut
  cases kq with
  | zero => exact absurd HA.out (by simp [crosswaylaw05_EtherMacs.j0])
  | succ kj6 =>
   have H := HA.out
   clear HA
   simp only [crosswaylaw05_EtherMacs.j0] at H
   by_cases c15 : x39_6 = true
   ·
    subst c15
    rw [if_pos rfl] at H
    exact absurd ((Option.some.inj H).trans HRT.out) (by decide)
   ·
    replace c15 := Bool.eq_false_iff.mpr c15
    subst c15
    rw [if_neg (show ¬ (false = true) by decide)] at H
    by_cases c16 : t432.toList = ([] : List UInt8)
    ·
     rw [if_pos c16] at H
     have c16b0 : (t432.toList == ([] : List UInt8)) = true := beq_iff_eq.mpr c16
     have c16b1 : (t432.toList != ([] : List UInt8)) = false := bne_eq_false_iff_eq.mpr c16
     clear c16
     by_cases c17 : t427 = true
     ·
      subst c17
      rw [if_pos rfl] at H
      obtain rfl := Option.some.inj H
      go_wp2
      go_ret
      exact ⟨by first | rfl | (simp [errW_none, errW_some] <;> rfl) | (simp [*, errW_none, errW_some] <;> rfl), by repeat (first | (with_reducible first | exact HB.out | apply below_alloc | apply pw_below_drewN | apply below_drew1) | exact HB.out)⟩
     ·
      replace c17 := Bool.eq_false_iff.mpr c17
      subst c17
      rw [if_neg (show ¬ (false = true) by decide)] at H
      exact absurd ((Option.some.inj H).trans HRT.out) (by decide)
    ·
     rw [if_neg c16] at H
     have c16b0 : (t432.toList == ([] : List UInt8)) = false := beq_eq_false_iff_ne.mpr c16
     have c16b1 : (t432.toList != ([] : List UInt8)) = true := bne_iff_ne.mpr c16
     replace H := Option.bind_eq_some_iff.mp H
     obtain ⟨⟨t434, t435⟩, A180, H⟩ := H
     replace H : (if t427 = true then (if t435 = 0 then (some (t434 == a1)) else (some false)) else (some false)) = some r := H
     have A18 := Aside0.mk A180
     clear A180
     by_cases c19 : t427 = true
     ·
      subst c19
      rw [if_pos rfl] at H
      by_cases c20 : t435 = 0
      ·
       rw [if_pos c20] at H
       have c20b0 : (t435 == 0) = true := beq_iff_eq.mpr c20
       have c20b1 : (t435 != 0) = false := bne_eq_false_iff_eq.mpr c20
       clear c20
       obtain rfl := Option.some.inj H
       go_wp2_with (first | ((with_reducible refine gate_callee (f := 19) rfl ?_); refine goesL_ (some 49) rfl rfl Tryd.func19 (by kernel_rfl) rfl #[.string t432] rfl (by (try simp only [List.map_toArray, List.map_cons, List.map_nil]); first | done | rfl | (simp only [List.length_drop, List.length_take]; rfl)) ?_; (with_reducible refine (ether_ParseMac.calls kj6 t432 t434 t435 _ A18.out).mono ?_); rintro e w21 ⟨rfl, hb⟩; refine ⟨_, rfl, ?_⟩; have n0_ := Aside0.mk (below_step (by repeat (first | (with_reducible first | exact HB.out | apply below_alloc | apply pw_below_drewN | apply below_drew1) | exact HB.out)) hb); clear HB; have HB := n0_; clear n0_; (try clear hb); (try clear hb2); (try clear hk); (try clear hi)))
       go_ret
       exact ⟨by first | rfl | (simp [errW_none, errW_some] <;> rfl) | (simp [*, errW_none, errW_some] <;> rfl), by repeat (first | (with_reducible first | exact HB.out | apply below_alloc | apply pw_below_drewN | apply below_drew1) | exact HB.out)⟩
      ·
       rw [if_neg c20] at H
       have c20b0 : (t435 == 0) = false := beq_eq_false_iff_ne.mpr c20
       have c20b1 : (t435 != 0) = true := bne_iff_ne.mpr c20
       exact absurd ((Option.some.inj H).trans HRT.out) (by decide)
     ·
      replace c19 := Bool.eq_false_iff.mpr c19
      subst c19
      rw [if_neg (show ¬ (false = true) by decide)] at H
      exact absurd ((Option.some.inj H).trans HRT.out) (by decide)

end Go.Proofs.YthajbaheejdoaaaDoor.PBase
