/- Functions of the program as Lean functions, each with a proof that a call comes to what it says. Conditions: those of each theorem. Laid by a program of this session. -/
import Derived.Test.YtkpncagfhiceoaaPBasex0
import Derived.Test.YtkpncagfhiceoaaPBasex7
import Derived.Test.YtkpncagfhiceoaaPBasex9
import Derived.Test.YtkpncagfhiceoaaPBasex14
namespace Go.Proofs.Ytkpncagfhiceoaa.PBase
open Go.RowKit Go.Proofs.Ytkpncagfhiceoaa Go.Proofs.YtkpncagfhiceoaaW.PrintWords Go.Proofs.YtkpncagfhiceoaaW.PrintLast Go.Proofs.YtkpncagfhiceoaaW.PrintMore
attribute [local go_sem] max2_int min2_int max_two min_two max_three min_three max_four min_four   -- for this text's walks alone
set_option linter.unusedVariables false
set_option linter.unusedSimpArgs false

/-! ### crosswaylaw09_NdRow: function 7 -/
mutual
def crosswaylaw09_NdRow.j0 : Nat → ByteArray → ByteArray → Int → Bool → Bool → Option (Bool)
 | 0, _, _, _, _, _ => none
 | k + 1, x0, x1, x2, x7, x26 => if x26 = true then (some x7) else ((nd_Options.f k x0).bind fun bt386 => ((nd_Options.f k x1).bind fun bt390 => (if x0.size + x1.size ≤ 9223372036854775807 then ((nd_Options.f k (x0 ++ x1)).bind fun bt394 => (if bt386.2 = 80 then (if x7 = true then (if bt394.2 = bt386.2 then (some ((bt394.1.length : Int) == 0)) else (some false)) else (some false)) else (if bt386.2 = 0 then (if bt390.2 = 0 then (crosswaylaw09_NdRow.l0 k x0 x2 x7 bt386.1 bt390.1 bt394.1 bt394.2 0 0) else (if x7 = true then (if bt394.2 = bt390.2 then (some ((bt394.1.length : Int) == 0)) else (some false)) else (some false))) else (some x7)))) else (none))))
def crosswaylaw09_NdRow.l0 : Nat → ByteArray → Int → Bool → List (S43) → List (S43) → List (S43) → Int → Int → Int → Option (Bool)
 | 0, _, _, _, _, _, _, _, _, _ => none
 | k + 1, x0, x2, x7, x8, x10, x12, x13, x14, x15 => if x15 < (x8.length : Int) then (if 0 ≤ x15 then (crosswaylaw09_NdRow.l0 k x0 x2 x7 x8 x10 x12 x13 (wrap64 ((wrap64 (x14 + 2)) + (((rd_T43 x8 x15).f1).size : Int))) (wrap64 (x15 + 1))) else (none)) else (if (x0.size : Int) > 0 then (if x2 < 0 then (crosswaylaw09_NdRow.j2 k x0 (wrap64 (-(wrap64 (x2 + 1)))) x7 x8 x10 x12 x13 x14) else (crosswaylaw09_NdRow.j2 k x0 x2 x7 x8 x10 x12 x13 x14)) else (if x7 = true then (if x13 = 0 then (if x14 = (x0.size : Int) then (if 0 ≤ (x8.length : Int) then (if (x8.length : Int) ≤ (x12.length : Int) then ((crosswaylaw09_same.f k (x12.take ((x8.length : Int) : Int).toNat) x8).bind fun t417 => (if t417 = true then ((crosswaylaw09_same.f k (x12.drop ((x8.length : Int) : Int).toNat) x10).bind fun t422 => (some t422)) else (some false))) else (none)) else (none)) else (some false)) else (some false)) else (some false)))
def crosswaylaw09_NdRow.j2 : Nat → ByteArray → Int → Bool → List (S43) → List (S43) → List (S43) → Int → Int → Option (Bool)
 | 0, _, _, _, _, _, _, _, _ => none
 | k + 1, x0, x2, x7, x8, x10, x12, x13, x14 => if (x0.size : Int) = 0 then (none) else (if 0 ≤ (Int.tmod x2 (x0.size : Int)) then (if (Int.tmod x2 (x0.size : Int)) ≤ (x0.size : Int) then ((nd_Options.f k (x0.extract 0 ((Int.tmod x2 (x0.size : Int)) : Int).toNat)).bind fun bt399 => (if bt399.2 = 80 then (crosswaylaw09_NdRow.j3 k x0 x7 x8 x10 x12 x13 x14 true) else (if bt399.2 = 0 then (crosswaylaw09_NdRow.j3 k x0 x7 x8 x10 x12 x13 x14 (decide ((bt399.1.length : Int) ≥ (x8.length : Int)))) else (crosswaylaw09_NdRow.j3 k x0 x7 x8 x10 x12 x13 x14 false)))) else (none)) else (none))
def crosswaylaw09_NdRow.j3 : Nat → ByteArray → Bool → List (S43) → List (S43) → List (S43) → Int → Int → Bool → Option (Bool)
 | 0, _, _, _, _, _, _, _, _ => none
 | k + 1, x0, x7, x8, x10, x12, x13, x14, x119 => if x119 = true then (some false) else (if x7 = true then (if x13 = 0 then (if x14 = (x0.size : Int) then (if 0 ≤ (x8.length : Int) then (if (x8.length : Int) ≤ (x12.length : Int) then ((crosswaylaw09_same.f k (x12.take ((x8.length : Int) : Int).toNat) x8).bind fun t407 => (if t407 = true then ((crosswaylaw09_same.f k (x12.drop ((x8.length : Int) : Int).toNat) x10).bind fun t412 => (some t412)) else (some false))) else (none)) else (none)) else (some false)) else (some false)) else (some false))
end
def crosswaylaw09_NdRow.f (k : Nat) (a0 : ByteArray) (a1 : ByteArray) (a2 : Int) : Option (Bool) := (crosswaylaw09_awake.f k).bind fun t385 => (if (a0.size : Int) > 5000 then (crosswaylaw09_NdRow.j0 k a0 a1 a2 t385 true) else (crosswaylaw09_NdRow.j0 k a0 a1 a2 t385 (decide ((a1.size : Int) > 5000))))
theorem crosswaylaw09_NdRow.mono_l : ∀ k, (∀ y0 y1 y2 y3 y4, LeO (crosswaylaw09_NdRow.j0 k y0 y1 y2 y3 y4) (crosswaylaw09_NdRow.j0 (k + 1) y0 y1 y2 y3 y4)) ∧ (∀ y0 y1 y2 y3 y4 y5 y6 y7 y8, LeO (crosswaylaw09_NdRow.l0 k y0 y1 y2 y3 y4 y5 y6 y7 y8) (crosswaylaw09_NdRow.l0 (k + 1) y0 y1 y2 y3 y4 y5 y6 y7 y8)) ∧ (∀ y0 y1 y2 y3 y4 y5 y6 y7, LeO (crosswaylaw09_NdRow.j2 k y0 y1 y2 y3 y4 y5 y6 y7) (crosswaylaw09_NdRow.j2 (k + 1) y0 y1 y2 y3 y4 y5 y6 y7)) ∧ (∀ y0 y1 y2 y3 y4 y5 y6 y7, LeO (crosswaylaw09_NdRow.j3 k y0 y1 y2 y3 y4 y5 y6 y7) (crosswaylaw09_NdRow.j3 (k + 1) y0 y1 y2 y3 y4 y5 y6 y7))
 | 0 => ⟨fun _ _ _ _ _ r h => by simp [crosswaylaw09_NdRow.j0] at h, fun _ _ _ _ _ _ _ _ _ r h => by simp [crosswaylaw09_NdRow.l0] at h, fun _ _ _ _ _ _ _ _ r h => by simp [crosswaylaw09_NdRow.j2] at h, fun _ _ _ _ _ _ _ _ r h => by simp [crosswaylaw09_NdRow.j3] at h⟩
 | k + 1 => by
  obtain ⟨ih0, ih1, ih2, ih3⟩ := crosswaylaw09_NdRow.mono_l k
  refine ⟨?_, ?_, ?_, ?_⟩
  ·
   intro y0 y1 y2 y3 y4
   unfold crosswaylaw09_NdRow.j0
   repeat' first
   | (with_reducible exact ih0 _ _ _ _ _)
   | (with_reducible exact ih1 _ _ _ _ _ _ _ _ _)
   | (with_reducible exact ih2 _ _ _ _ _ _ _ _)
   | (with_reducible exact ih3 _ _ _ _ _ _ _ _)
   | (with_reducible exact crosswaylaw09_awake.mono _)
   | (with_reducible exact crosswaylaw09_same.mono _ _ _)
   | (with_reducible exact nd_Options.mono _ _)
   | (with_reducible exact LeO.refl _)
   | (with_reducible exact LeO.none _)
   | (with_reducible refine LeO.ite ?_ ?_)
   | (with_reducible refine LeO.bind ?_ (fun _ => ?_))
   | exact ih0 _ _ _ _ _
   | exact ih1 _ _ _ _ _ _ _ _ _
   | exact ih2 _ _ _ _ _ _ _ _
   | exact ih3 _ _ _ _ _ _ _ _
   | exact crosswaylaw09_awake.mono _
   | exact crosswaylaw09_same.mono _ _ _
   | exact nd_Options.mono _ _
   | exact LeO.none _
   | refine LeO.ite ?_ ?_
   | refine LeO.bind ?_ (fun _ => ?_)
  ·
   intro y0 y1 y2 y3 y4 y5 y6 y7 y8
   unfold crosswaylaw09_NdRow.l0
   repeat' first
   | (with_reducible exact ih0 _ _ _ _ _)
   | (with_reducible exact ih1 _ _ _ _ _ _ _ _ _)
   | (with_reducible exact ih2 _ _ _ _ _ _ _ _)
   | (with_reducible exact ih3 _ _ _ _ _ _ _ _)
   | (with_reducible exact crosswaylaw09_awake.mono _)
   | (with_reducible exact crosswaylaw09_same.mono _ _ _)
   | (with_reducible exact nd_Options.mono _ _)
   | (with_reducible exact LeO.refl _)
   | (with_reducible exact LeO.none _)
   | (with_reducible refine LeO.ite ?_ ?_)
   | (with_reducible refine LeO.bind ?_ (fun _ => ?_))
   | exact ih0 _ _ _ _ _
   | exact ih1 _ _ _ _ _ _ _ _ _
   | exact ih2 _ _ _ _ _ _ _ _
   | exact ih3 _ _ _ _ _ _ _ _
   | exact crosswaylaw09_awake.mono _
   | exact crosswaylaw09_same.mono _ _ _
   | exact nd_Options.mono _ _
   | exact LeO.none _
   | refine LeO.ite ?_ ?_
   | refine LeO.bind ?_ (fun _ => ?_)
  ·
   intro y0 y1 y2 y3 y4 y5 y6 y7
   unfold crosswaylaw09_NdRow.j2
   repeat' first
   | (with_reducible exact ih0 _ _ _ _ _)
   | (with_reducible exact ih1 _ _ _ _ _ _ _ _ _)
   | (with_reducible exact ih2 _ _ _ _ _ _ _ _)
   | (with_reducible exact ih3 _ _ _ _ _ _ _ _)
   | (with_reducible exact crosswaylaw09_awake.mono _)
   | (with_reducible exact crosswaylaw09_same.mono _ _ _)
   | (with_reducible exact nd_Options.mono _ _)
   | (with_reducible exact LeO.refl _)
   | (with_reducible exact LeO.none _)
   | (with_reducible refine LeO.ite ?_ ?_)
   | (with_reducible refine LeO.bind ?_ (fun _ => ?_))
   | exact ih0 _ _ _ _ _
   | exact ih1 _ _ _ _ _ _ _ _ _
   | exact ih2 _ _ _ _ _ _ _ _
   | exact ih3 _ _ _ _ _ _ _ _
   | exact crosswaylaw09_awake.mono _
   | exact crosswaylaw09_same.mono _ _ _
   | exact nd_Options.mono _ _
   | exact LeO.none _
   | refine LeO.ite ?_ ?_
   | refine LeO.bind ?_ (fun _ => ?_)
  ·
   intro y0 y1 y2 y3 y4 y5 y6 y7
   unfold crosswaylaw09_NdRow.j3
   repeat' first
   | (with_reducible exact ih0 _ _ _ _ _)
   | (with_reducible exact ih1 _ _ _ _ _ _ _ _ _)
   | (with_reducible exact ih2 _ _ _ _ _ _ _ _)
   | (with_reducible exact ih3 _ _ _ _ _ _ _ _)
   | (with_reducible exact crosswaylaw09_awake.mono _)
   | (with_reducible exact crosswaylaw09_same.mono _ _ _)
   | (with_reducible exact nd_Options.mono _ _)
   | (with_reducible exact LeO.refl _)
   | (with_reducible exact LeO.none _)
   | (with_reducible refine LeO.ite ?_ ?_)
   | (with_reducible refine LeO.bind ?_ (fun _ => ?_))
   | exact ih0 _ _ _ _ _
   | exact ih1 _ _ _ _ _ _ _ _ _
   | exact ih2 _ _ _ _ _ _ _ _
   | exact ih3 _ _ _ _ _ _ _ _
   | exact crosswaylaw09_awake.mono _
   | exact crosswaylaw09_same.mono _ _ _
   | exact nd_Options.mono _ _
   | exact LeO.none _
   | refine LeO.ite ?_ ?_
   | refine LeO.bind ?_ (fun _ => ?_)
theorem crosswaylaw09_NdRow.mono : ∀ a0 a1 a2 k, LeO (crosswaylaw09_NdRow.f k a0 a1 a2) (crosswaylaw09_NdRow.f (k + 1) a0 a1 a2) := by
 intro a0 a1 a2 k
 obtain ⟨ih0, ih1, ih2, ih3⟩ := crosswaylaw09_NdRow.mono_l k
 unfold crosswaylaw09_NdRow.f
 repeat' first
   | (with_reducible exact ih0 _ _ _ _ _)
   | (with_reducible exact ih1 _ _ _ _ _ _ _ _ _)
   | (with_reducible exact ih2 _ _ _ _ _ _ _ _)
   | (with_reducible exact ih3 _ _ _ _ _ _ _ _)
   | (with_reducible exact crosswaylaw09_awake.mono _)
   | (with_reducible exact crosswaylaw09_same.mono _ _ _)
   | (with_reducible exact nd_Options.mono _ _)
   | (with_reducible exact LeO.refl _)
   | (with_reducible exact LeO.none _)
   | (with_reducible refine LeO.ite ?_ ?_)
   | (with_reducible refine LeO.bind ?_ (fun _ => ?_))
   | exact ih0 _ _ _ _ _
   | exact ih1 _ _ _ _ _ _ _ _ _
   | exact ih2 _ _ _ _ _ _ _ _
   | exact ih3 _ _ _ _ _ _ _ _
   | exact crosswaylaw09_awake.mono _
   | exact crosswaylaw09_same.mono _ _ _
   | exact nd_Options.mono _ _
   | exact LeO.none _
   | refine LeO.ite ?_ ?_
   | refine LeO.bind ?_ (fun _ => ?_)
set_option maxHeartbeats 8000000 in
set_option maxRecDepth 100000 in
theorem crosswaylaw09_NdRow.calls (k : Nat) (a0 : ByteArray) (a1 : ByteArray) (a2 : Int) (r : Bool) (w : World) (h : crosswaylaw09_NdRow.f k a0 a1 a2 = some r) (hrt : r = true) :
  Calls Try.prog 7 #[.string a0, .string a1, .int .i64 a2] w fun e w' => e = .returned (.bool r) ∧ Below w.heap.size w w' := by
 have HRT := Aside0.mk hrt
 clear hrt
 have HB := Aside0.mk (Below.refl w.heap.size w)
 have H : ((crosswaylaw09_awake.f k).bind fun t385 => (if (a0.size : Int) > 5000 then (crosswaylaw09_NdRow.j0 k a0 a1 a2 t385 true) else (crosswaylaw09_NdRow.j0 k a0 a1 a2 t385 (decide ((a1.size : Int) > 5000))))) = some r := h
 clear h
 replace H := Option.bind_eq_some_iff.mp H
 obtain ⟨t385, A40, H⟩ := H
 have A4 := Aside0.mk A40
 clear A40
 have HC5 := Aside0.mk H
 clear H
 go_enter Try.func7, Try.ntmps7
 go_upto_region 2 with (first | ((with_reducible refine gate_callee (f := 8) rfl ?_); refine goesL_ (some 18) rfl rfl Try.func8 (by kernel_rfl) rfl #[] rfl (by (try simp only [List.map_toArray, List.map_cons, List.map_nil]); first | done | rfl | (simp only [List.length_drop, List.length_take]; rfl)) ?_; (with_reducible refine (crosswaylaw09_awake.calls k  t385 _ A4.out).mono ?_); rintro e w6 ⟨rfl, hb⟩; refine ⟨_, rfl, ?_⟩; have n0_ := Aside0.mk (below_step (by repeat (first | (with_reducible first | exact HB.out | apply below_alloc | apply pw_below_drewN | apply below_drew1) | exact HB.out)) hb); clear HB; have HB := n0_; clear n0_; (try clear hb); (try clear hb2); (try clear hk); (try clear hi)))
 (try simp only [Act.put, List.setIfInBounds_toArray, List.set_cons_zero, List.set_cons_succ])
 go_cut [26] (fun v26 wc => ∃ (kq : Nat) (x26_4 : Bool), v26 = .bool x26_4 ∧ Aside0 (crosswaylaw09_NdRow.j0 kq a0 a1 a2 t385 x26_4 = some r) ∧ Aside0 (kq ≤ k) ∧ Aside0 (Below w.heap.size w wc))
 case first =>
  have H := HC5.out
  clear HC5
  by_cases c7 : (a0.size : Int) > 5000
  ·
   rw [if_pos c7] at H
   have c7b0 : decide (5000 < (a0.size : Int)) = true := decide_eq_true c7
   have c7b1 : decide (5000 < a0.size) = true := decide_eq_true (by omega)
   clear c7
   (first | rw [c7b0] | (simp only [i64_w, i32_w]; rw [c7b0]) | skip)
   have H' := Aside0.mk H
   clear H
   go_wp2
   go_meet
   case rel => exact ⟨_, (true), (by first | rfl | (simp; done) | (simp [*]; done)), H', ⟨by first | omega | exact Nat.le_refl _⟩, ⟨by repeat (first | (with_reducible first | exact HB.out | apply below_alloc | apply pw_below_drewN | apply below_drew1) | exact HB.out)⟩⟩
  ·
   rw [if_neg c7] at H
   have c7b0 : decide (5000 < (a0.size : Int)) = false := decide_eq_false c7
   have c7b1 : decide (5000 < a0.size) = false := decide_eq_false (by omega)
   clear c7
   (first | rw [c7b0] | (simp only [i64_w, i32_w]; rw [c7b0]) | skip)
   have H' := Aside0.mk H
   clear H
   go_wp2
   go_meet
   case rel => exact ⟨_, (decide ((a1.size : Int) > 5000)), (by first | rfl | (simp; done) | (simp [*]; done)), H', ⟨by first | omega | exact Nat.le_refl _⟩, ⟨by repeat (first | (with_reducible first | exact HB.out | apply below_alloc | apply pw_below_drewN | apply below_drew1) | exact HB.out)⟩⟩
 case rest =>
  clear HC5
  try clear p2
  try clear c7
  try clear c7b0
  try clear c7b1
  obtain ⟨kq, x26_4, rfl, HA, HJ4, HB⟩ := hcut
  cases kq with
  | zero => exact absurd HA.out (by simp [crosswaylaw09_NdRow.j0])
  | succ kj4 =>
   have H := HA.out
   clear HA
   simp only [crosswaylaw09_NdRow.j0] at H
   by_cases c8 : x26_4 = true
   ·
    subst c8
    rw [if_pos rfl] at H
    obtain rfl := Option.some.inj H
    go_wp2
    go_ret
    exact ⟨by first | rfl | (simp [errW_none, errW_some] <;> rfl) | (simp [*, errW_none, errW_some] <;> rfl), by repeat (first | (with_reducible first | exact HB.out | apply below_alloc | apply pw_below_drewN | apply below_drew1) | exact HB.out)⟩
   ·
    replace c8 := Bool.eq_false_iff.mpr c8
    subst c8
    rw [if_neg (show ¬ (false = true) by decide)] at H
    replace H := Option.bind_eq_some_iff.mp H
    obtain ⟨⟨t386, t387⟩, A90, H⟩ := H
    replace H : ((nd_Options.f kj4 a1).bind fun bt390 => (if a0.size + a1.size ≤ 9223372036854775807 then ((nd_Options.f kj4 (a0 ++ a1)).bind fun bt394 => (if t387 = 80 then (if t385 = true then (if bt394.2 = t387 then (some ((bt394.1.length : Int) == 0)) else (some false)) else (some false)) else (if t387 = 0 then (if bt390.2 = 0 then (crosswaylaw09_NdRow.l0 kj4 a0 a2 t385 t386 bt390.1 bt394.1 bt394.2 0 0) else (if t385 = true then (if bt394.2 = bt390.2 then (some ((bt394.1.length : Int) == 0)) else (some false)) else (some false))) else (some t385)))) else (none))) = some r := H
    have A9 := Aside0.mk A90
    clear A90
    replace H := Option.bind_eq_some_iff.mp H
    obtain ⟨⟨t390, t391⟩, A100, H⟩ := H
    replace H : (if a0.size + a1.size ≤ 9223372036854775807 then ((nd_Options.f kj4 (a0 ++ a1)).bind fun bt394 => (if t387 = 80 then (if t385 = true then (if bt394.2 = t387 then (some ((bt394.1.length : Int) == 0)) else (some false)) else (some false)) else (if t387 = 0 then (if t391 = 0 then (crosswaylaw09_NdRow.l0 kj4 a0 a2 t385 t386 t390 bt394.1 bt394.2 0 0) else (if t385 = true then (if bt394.2 = t391 then (some ((bt394.1.length : Int) == 0)) else (some false)) else (some false))) else (some t385)))) else (none)) = some r := H
    have A10 := Aside0.mk A100
    clear A100
    by_cases c11 : a0.size + a1.size ≤ 9223372036854775807
    ·
     rw [if_pos c11] at H
     have c11b0 := eq_true c11
     have c11b1 : decide (a0.size + a1.size ≤ 9223372036854775807) = true := decide_eq_true c11
     try have c11b2 : (9223372036854775807 < a0.size + a1.size) = False := eq_false (Nat.not_lt.2 c11)
     replace H := Option.bind_eq_some_iff.mp H
     obtain ⟨⟨t394, t395⟩, A120, H⟩ := H
     replace H : (if t387 = 80 then (if t385 = true then (if t395 = t387 then (some ((t394.length : Int) == 0)) else (some false)) else (some false)) else (if t387 = 0 then (if t391 = 0 then (crosswaylaw09_NdRow.l0 kj4 a0 a2 t385 t386 t390 t394 t395 0 0) else (if t385 = true then (if t395 = t391 then (some ((t394.length : Int) == 0)) else (some false)) else (some false))) else (some t385))) = some r := H
     have A12 := Aside0.mk A120
     clear A120
     by_cases c13 : t387 = 80
     ·
      rw [if_pos c13] at H
      have c13b0 : (t387 == 80) = true := beq_iff_eq.mpr c13
      have c13b1 : (t387 != 80) = false := bne_eq_false_iff_eq.mpr c13
      clear c13
      by_cases c14 : t385 = true
      ·
       subst c14
       rw [if_pos rfl] at H
       by_cases c15 : t395 = t387
       ·
        rw [if_pos c15] at H
        have c15b0 : (t395 == t387) = true := beq_iff_eq.mpr c15
        have c15b1 : (t395 != t387) = false := bne_eq_false_iff_eq.mpr c15
        clear c15
        obtain rfl := Option.some.inj H
        go_wp2_with (first | ((with_reducible refine gate_callee (f := 13) rfl ?_); refine goesL_ (some 30) rfl rfl Try.func13 (by kernel_rfl) rfl #[.string a0] rfl (by (try simp only [List.map_toArray, List.map_cons, List.map_nil]); first | done | rfl | (simp only [List.length_drop, List.length_take]; rfl)) ?_; (with_reducible refine (nd_Options.calls kj4 a0 t386 t387 _ A9.out).mono ?_); rintro e w16 ⟨v388, rfl, ho0, hb⟩; refine ⟨_, rfl, ?_⟩; have n0_ := Aside0.mk (Kd.R_lower ho0 (below_size (by repeat (first | (with_reducible first | exact HB.out | apply below_alloc | apply pw_below_drewN | apply below_drew1) | exact HB.out)))); have n1_ := Aside0.mk (below_step (by repeat (first | (with_reducible first | exact HB.out | apply below_alloc | apply pw_below_drewN | apply below_drew1) | exact HB.out)) hb); clear HB; have HO389 := n0_; have HB := n1_; clear n0_ n1_; (try clear hb); (try clear hb2); (try clear hk); (try clear hi); (try clear ho0)) | ((with_reducible refine gate_callee (f := 13) rfl ?_); refine goesL_ (some 35) rfl rfl Try.func13 (by kernel_rfl) rfl #[.string a1] rfl (by (try simp only [List.map_toArray, List.map_cons, List.map_nil]); first | done | rfl | (simp only [List.length_drop, List.length_take]; rfl)) ?_; (with_reducible refine (nd_Options.calls kj4 a1 t390 t391 _ A10.out).mono ?_); rintro e w17 ⟨v392, rfl, ho0, hb⟩; refine ⟨_, rfl, ?_⟩; have n0_ := Aside0.mk (Kd.R_elder' (by (with_reducible repeat (first | apply Kd.R_alloc | apply Kd.R_drewN | apply Kd.R_drew)); exact HO389.out) (Kd.R_base ho0) hb); have n1_ := Aside0.mk (Kd.R_lower (Kd.R_new' ho0 (Kd.R_lt (by (with_reducible repeat (first | apply Kd.R_alloc | apply Kd.R_drewN | apply Kd.R_drew)); exact HO389.out))) (below_size (by repeat (first | (with_reducible first | exact HB.out | apply below_alloc | apply pw_below_drewN | apply below_drew1) | exact HB.out)))); have n2_ := Aside0.mk (below_step (by repeat (first | (with_reducible first | exact HB.out | apply below_alloc | apply pw_below_drewN | apply below_drew1) | exact HB.out)) hb); clear HO389; clear HB; have HO389 := n0_; have HO393 := n1_; have HB := n2_; clear n0_ n1_ n2_; (try clear hb); (try clear hb2); (try clear hk); (try clear hi); (try clear ho0)) | ((with_reducible refine gate_callee (f := 13) rfl ?_); refine goesL_ (some 42) rfl rfl Try.func13 (by kernel_rfl) rfl #[.string (a0 ++ a1)] rfl (by (try simp only [List.map_toArray, List.map_cons, List.map_nil]); first | done | rfl | (simp only [List.length_drop, List.length_take]; rfl)) ?_; (with_reducible refine (nd_Options.calls kj4 (a0 ++ a1) t394 t395 _ A12.out).mono ?_); rintro e w18 ⟨v396, rfl, ho0, hb⟩; refine ⟨_, rfl, ?_⟩; have n0_ := Aside0.mk (Kd.R_elder' (by (with_reducible repeat (first | apply Kd.R_alloc | apply Kd.R_drewN | apply Kd.R_drew)); exact HO389.out) (Kd.R_base ho0) hb); have n1_ := Aside0.mk (Kd.R_elder' (by (with_reducible repeat (first | apply Kd.R_alloc | apply Kd.R_drewN | apply Kd.R_drew)); exact HO393.out) (Kd.R_base ho0) hb); have n2_ := Aside0.mk (Kd.R_lower (Kd.R_new' (Kd.R_new' ho0 (Kd.R_lt (by (with_reducible repeat (first | apply Kd.R_alloc | apply Kd.R_drewN | apply Kd.R_drew)); exact HO389.out))) (Kd.R_lt (by (with_reducible repeat (first | apply Kd.R_alloc | apply Kd.R_drewN | apply Kd.R_drew)); exact HO393.out))) (below_size (by repeat (first | (with_reducible first | exact HB.out | apply below_alloc | apply pw_below_drewN | apply below_drew1) | exact HB.out)))); have n3_ := Aside0.mk (below_step (by repeat (first | (with_reducible first | exact HB.out | apply below_alloc | apply pw_below_drewN | apply below_drew1) | exact HB.out)) hb); clear HO389; clear HO393; clear HB; have HO389 := n0_; have HO393 := n1_; have HO397 := n2_; have HB := n3_; clear n0_ n1_ n2_ n3_; (try clear hb); (try clear hb2); (try clear hk); (try clear hi); (try clear ho0); obtain ⟨Ao19, co19, eo19⟩ := Kd.R_slice HO397.out; subst eo19))
        go_ret
        exact ⟨by first | rfl | (simp [errW_none, errW_some] <;> rfl) | (simp [*, errW_none, errW_some] <;> rfl), by repeat (first | (with_reducible first | exact HB.out | apply below_alloc | apply pw_below_drewN | apply below_drew1) | exact HB.out)⟩
       ·
        rw [if_neg c15] at H
        have c15b0 : (t395 == t387) = false := beq_eq_false_iff_ne.mpr c15
        have c15b1 : (t395 != t387) = true := bne_iff_ne.mpr c15
        exact absurd ((Option.some.inj H).trans HRT.out) (by decide)
      ·
       replace c14 := Bool.eq_false_iff.mpr c14
       subst c14
       rw [if_neg (show ¬ (false = true) by decide)] at H
       exact absurd ((Option.some.inj H).trans HRT.out) (by decide)
     ·
      rw [if_neg c13] at H
      have c13b0 : (t387 == 80) = false := beq_eq_false_iff_ne.mpr c13
      have c13b1 : (t387 != 80) = true := bne_iff_ne.mpr c13
      by_cases c20 : t387 = 0
      ·
       rw [if_pos c20] at H
       have c20b0 : (t387 == 0) = true := beq_iff_eq.mpr c20
       have c20b1 : (t387 != 0) = false := bne_eq_false_iff_eq.mpr c20
       clear c20
       by_cases c21 : t391 = 0
       ·
        rw [if_pos c21] at H
        have c21b0 : (t391 == 0) = true := beq_iff_eq.mpr c21
        have c21b1 : (t391 != 0) = false := bne_eq_false_iff_eq.mpr c21
        clear c21
        have H' := Aside0.mk H
        clear H
        go_wp2_with (first | ((with_reducible refine gate_callee (f := 13) rfl ?_); refine goesL_ (some 30) rfl rfl Try.func13 (by kernel_rfl) rfl #[.string a0] rfl (by (try simp only [List.map_toArray, List.map_cons, List.map_nil]); first | done | rfl | (simp only [List.length_drop, List.length_take]; rfl)) ?_; (with_reducible refine (nd_Options.calls kj4 a0 t386 t387 _ A9.out).mono ?_); rintro e w22 ⟨v388, rfl, ho0, hb⟩; refine ⟨_, rfl, ?_⟩; have n0_ := Aside0.mk (Kd.R_lower ho0 (below_size (by repeat (first | (with_reducible first | exact HB.out | apply below_alloc | apply pw_below_drewN | apply below_drew1) | exact HB.out)))); have n1_ := Aside0.mk (below_step (by repeat (first | (with_reducible first | exact HB.out | apply below_alloc | apply pw_below_drewN | apply below_drew1) | exact HB.out)) hb); clear HB; have HO389 := n0_; have HB := n1_; clear n0_ n1_; (try clear hb); (try clear hb2); (try clear hk); (try clear hi); (try clear ho0)) | ((with_reducible refine gate_callee (f := 13) rfl ?_); refine goesL_ (some 35) rfl rfl Try.func13 (by kernel_rfl) rfl #[.string a1] rfl (by (try simp only [List.map_toArray, List.map_cons, List.map_nil]); first | done | rfl | (simp only [List.length_drop, List.length_take]; rfl)) ?_; (with_reducible refine (nd_Options.calls kj4 a1 t390 t391 _ A10.out).mono ?_); rintro e w23 ⟨v392, rfl, ho0, hb⟩; refine ⟨_, rfl, ?_⟩; have n0_ := Aside0.mk (Kd.R_elder' (by (with_reducible repeat (first | apply Kd.R_alloc | apply Kd.R_drewN | apply Kd.R_drew)); exact HO389.out) (Kd.R_base ho0) hb); have n1_ := Aside0.mk (Kd.R_lower (Kd.R_new' ho0 (Kd.R_lt (by (with_reducible repeat (first | apply Kd.R_alloc | apply Kd.R_drewN | apply Kd.R_drew)); exact HO389.out))) (below_size (by repeat (first | (with_reducible first | exact HB.out | apply below_alloc | apply pw_below_drewN | apply below_drew1) | exact HB.out)))); have n2_ := Aside0.mk (below_step (by repeat (first | (with_reducible first | exact HB.out | apply below_alloc | apply pw_below_drewN | apply below_drew1) | exact HB.out)) hb); clear HO389; clear HB; have HO389 := n0_; have HO393 := n1_; have HB := n2_; clear n0_ n1_ n2_; (try clear hb); (try clear hb2); (try clear hk); (try clear hi); (try clear ho0)) | ((with_reducible refine gate_callee (f := 13) rfl ?_); refine goesL_ (some 42) rfl rfl Try.func13 (by kernel_rfl) rfl #[.string (a0 ++ a1)] rfl (by (try simp only [List.map_toArray, List.map_cons, List.map_nil]); first | done | rfl | (simp only [List.length_drop, List.length_take]; rfl)) ?_; (with_reducible refine (nd_Options.calls kj4 (a0 ++ a1) t394 t395 _ A12.out).mono ?_); rintro e w24 ⟨v396, rfl, ho0, hb⟩; refine ⟨_, rfl, ?_⟩; have n0_ := Aside0.mk (Kd.R_elder' (by (with_reducible repeat (first | apply Kd.R_alloc | apply Kd.R_drewN | apply Kd.R_drew)); exact HO389.out) (Kd.R_base ho0) hb); have n1_ := Aside0.mk (Kd.R_elder' (by (with_reducible repeat (first | apply Kd.R_alloc | apply Kd.R_drewN | apply Kd.R_drew)); exact HO393.out) (Kd.R_base ho0) hb); have n2_ := Aside0.mk (Kd.R_lower (Kd.R_new' (Kd.R_new' ho0 (Kd.R_lt (by (with_reducible repeat (first | apply Kd.R_alloc | apply Kd.R_drewN | apply Kd.R_drew)); exact HO389.out))) (Kd.R_lt (by (with_reducible repeat (first | apply Kd.R_alloc | apply Kd.R_drewN | apply Kd.R_drew)); exact HO393.out))) (below_size (by repeat (first | (with_reducible first | exact HB.out | apply below_alloc | apply pw_below_drewN | apply below_drew1) | exact HB.out)))); have n3_ := Aside0.mk (below_step (by repeat (first | (with_reducible first | exact HB.out | apply below_alloc | apply pw_below_drewN | apply below_drew1) | exact HB.out)) hb); clear HO389; clear HO393; clear HB; have HO389 := n0_; have HO393 := n1_; have HO397 := n2_; have HB := n3_; clear n0_ n1_ n2_ n3_; (try clear hb); (try clear hb2); (try clear hk); (try clear hi); (try clear ho0)))
        go_loopg [14, 15] kj4 (fun kq v14 v15 w' => ∃ (x14_2 : Int) (x15_2 : Int), v14 = .int .i64 x14_2 ∧ v15 = .int .i64 x15_2 ∧ Aside0 (crosswaylaw09_NdRow.l0 kq a0 a2 t385 t386 t390 t394 t395 x14_2 x15_2 = some r) ∧ Aside0 (kq ≤ kj4) ∧ Aside0 (Kd.R k43 43 w' w.heap.size (fun k_ => some k_ ≠ (v392 : Value).ownBlock ∧ some k_ ≠ (v396 : Value).ownBlock) v388 t386) ∧ Aside0 (Kd.R k43 43 w' w.heap.size (fun k_ => some k_ ≠ (v388 : Value).ownBlock ∧ some k_ ≠ (v396 : Value).ownBlock) v392 t390) ∧ Aside0 (Kd.R k43 43 w' w.heap.size (fun k_ => some k_ ≠ (v388 : Value).ownBlock ∧ some k_ ≠ (v392 : Value).ownBlock) v396 t394) ∧ Aside0 (Below w.heap.size w w'))
        case atStart => exact ⟨(0), (0), (by first | rfl | (simp; done) | (simp [*]; done)), (by first | rfl | (simp; done) | (simp [*]; done)), H', ⟨Nat.le_refl _⟩, ⟨by (with_reducible repeat (first | apply Kd.R_alloc | apply Kd.R_drewN | apply Kd.R_drew)); exact Kd.R_mono HO389.out (fun _ hk => ⟨hk.1.2, hk.2⟩)⟩, ⟨by (with_reducible repeat (first | apply Kd.R_alloc | apply Kd.R_drewN | apply Kd.R_drew)); exact Kd.R_mono HO393.out (fun _ hk => ⟨hk.1.2, hk.2⟩)⟩, ⟨by (with_reducible repeat (first | apply Kd.R_alloc | apply Kd.R_drewN | apply Kd.R_drew)); exact Kd.R_mono HO397.out (fun _ hk => ⟨hk.1.2, hk.2⟩)⟩, ⟨by repeat (first | (with_reducible first | exact HB.out | apply below_alloc | apply pw_below_drewN | apply below_drew1) | exact HB.out)⟩⟩
        case round =>
         clear H'
         try clear c1
         try clear c2
         try clear p2
         try clear c7
         try clear c7b0
         try clear c7b1
         try clear c8
         try clear c11
         try clear c11b0
         try clear c11b1
         try clear c11b2
         try clear c13
         try clear c13b0
         try clear c13b1
         try clear c14
         try clear c15
         try clear c15b0
         try clear c15b1
         try clear c20
         try clear c20b0
         try clear c20b1
         try clear c21
         try clear c21b0
         try clear c21b1
         try clear p2
         obtain ⟨x14_2, x15_2, rfl, rfl, HA, HK2, HO_8, HO_10, HO_12, HB⟩ := hrel
         cases gk with
         | zero => exact absurd HA.out (by simp [crosswaylaw09_NdRow.l0])
         | succ k2 =>
          have H := HA.out
          clear HA
          simp only [crosswaylaw09_NdRow.l0] at H
          by_cases c25 : x15_2 < (t386.length : Int)
          ·
           rw [if_pos c25] at H
           have c25b0 : decide (x15_2 < (t386.length : Int)) = true := decide_eq_true c25
           clear c25
           by_cases c26 : 0 ≤ x15_2
           ·
            rw [if_pos c26] at H
            have c26b0 : decide (0 ≤ x15_2) = true := decide_eq_true c26
            clear c26
            have H' := Aside0.mk H
            clear H
            obtain ⟨Ao27, co27, eo27⟩ := Kd.R_slice HO_8.out
            subst eo27
            have p398 : 0 ≤ (x15_2 : Int) := of_decide_eq_true (by first | (with_reducible assumption) | assumption)
            have q398 : x15_2 < (t386.length : Int) := of_decide_eq_true (by first | (with_reducible assumption) | assumption)
            obtain ⟨ad398, e398, hx398_0, hx398_1⟩ := at_T43 (Kd.R_reads' HO_8.out).2.2 x15_2 p398 q398
            cases e398
            replace p398 := eq_true p398
            replace q398 := eq_true q398
            go_wp2
            go_roundg k2
            case measure => have := HJ4.out; have := HK2.out; omega
            case rel => exact ⟨(wrap64 ((wrap64 (x14_2 + 2)) + (((rd_T43 t386 x15_2).f1).size : Int))), (wrap64 (x15_2 + 1)), (by first | rfl | (simp; done) | (simp [*]; done)), (by first | rfl | (simp; done) | (simp [*]; done)), H', ⟨by have := HJ4.out; have := HK2.out; omega⟩, ⟨by (with_reducible repeat (first | apply Kd.R_alloc | apply Kd.R_drewN | apply Kd.R_drew)); exact HO_8.out⟩, ⟨by (with_reducible repeat (first | apply Kd.R_alloc | apply Kd.R_drewN | apply Kd.R_drew)); exact HO_10.out⟩, ⟨by (with_reducible repeat (first | apply Kd.R_alloc | apply Kd.R_drewN | apply Kd.R_drew)); exact HO_12.out⟩, ⟨by repeat (first | (with_reducible first | exact HB.out | apply below_alloc | apply pw_below_drewN | apply below_drew1) | exact HB.out)⟩⟩
           ·
            rw [if_neg c26] at H
            exact absurd H (by simp)
          ·
           rw [if_neg c25] at H
           have c25b0 : decide (x15_2 < (t386.length : Int)) = false := decide_eq_false c25
           clear c25
           by_cases c28 : (a0.size : Int) > 0
           ·
            rw [if_pos c28] at H
            have c28b0 : decide (0 < (a0.size : Int)) = true := decide_eq_true c28
            have c28b1 : decide (0 < a0.size) = true := decide_eq_true (by omega)
            clear c28
            have HC29 := Aside0.mk H
            clear H
            obtain ⟨Ao30, co30, eo30⟩ := Kd.R_slice HO_8.out
            subst eo30
            go_upto_if 93 with (fail)
            go_cut [2] (fun v2 wc => ∃ (kq : Nat) (x2_28 : Int), v2 = .int .i64 x2_28 ∧ Aside0 (crosswaylaw09_NdRow.j2 kq a0 x2_28 t385 t386 t390 t394 t395 x14_2 = some r) ∧ Aside0 (kq ≤ k2) ∧ Aside0 (Kd.R k43 43 wc w.heap.size (fun k_ => some k_ ≠ (v392 : Value).ownBlock ∧ some k_ ≠ (v396 : Value).ownBlock) (.slice Ao30 t386.length co30) t386) ∧ Aside0 (Kd.R k43 43 wc w.heap.size (fun k_ => some k_ ≠ ((.slice Ao30 t386.length co30) : Value).ownBlock ∧ some k_ ≠ (v396 : Value).ownBlock) v392 t390) ∧ Aside0 (Kd.R k43 43 wc w.heap.size (fun k_ => some k_ ≠ ((.slice Ao30 t386.length co30) : Value).ownBlock ∧ some k_ ≠ (v392 : Value).ownBlock) v396 t394) ∧ Aside0 (Below w.heap.size w wc))
            case first =>
             have H := HC29.out
             clear HC29
             by_cases c31 : a2 < 0
             ·
              rw [if_pos c31] at H
              have c31b0 : decide (a2 < 0) = true := decide_eq_true c31
              clear c31
              (first | rw [c31b0] | (simp only [i64_w, i32_w]; rw [c31b0]) | skip)
              have H' := Aside0.mk H
              clear H
              go_wp2
              go_meet
              case rel => exact ⟨_, (wrap64 (-(wrap64 (a2 + 1)))), (by first | rfl | (simp; done) | (simp [*]; done)), H', ⟨by have := HJ4.out; have := HK2.out; first | omega | exact Nat.le_refl _⟩, ⟨by (with_reducible repeat (first | apply Kd.R_alloc | apply Kd.R_drewN | apply Kd.R_drew)); exact HO_8.out⟩, ⟨by (with_reducible repeat (first | apply Kd.R_alloc | apply Kd.R_drewN | apply Kd.R_drew)); exact HO_10.out⟩, ⟨by (with_reducible repeat (first | apply Kd.R_alloc | apply Kd.R_drewN | apply Kd.R_drew)); exact HO_12.out⟩, ⟨by repeat (first | (with_reducible first | exact HB.out | apply below_alloc | apply pw_below_drewN | apply below_drew1) | exact HB.out)⟩⟩
             ·
              rw [if_neg c31] at H
              have c31b0 : decide (a2 < 0) = false := decide_eq_false c31
              clear c31
              (first | rw [c31b0] | (simp only [i64_w, i32_w]; rw [c31b0]) | skip)
              have H' := Aside0.mk H
              clear H
              go_wp2
              go_meet
              case rel => exact ⟨_, (a2), (by first | rfl | (simp; done) | (simp [*]; done)), H', ⟨by have := HJ4.out; have := HK2.out; first | omega | exact Nat.le_refl _⟩, ⟨by (with_reducible repeat (first | apply Kd.R_alloc | apply Kd.R_drewN | apply Kd.R_drew)); exact HO_8.out⟩, ⟨by (with_reducible repeat (first | apply Kd.R_alloc | apply Kd.R_drewN | apply Kd.R_drew)); exact HO_10.out⟩, ⟨by (with_reducible repeat (first | apply Kd.R_alloc | apply Kd.R_drewN | apply Kd.R_drew)); exact HO_12.out⟩, ⟨by repeat (first | (with_reducible first | exact HB.out | apply below_alloc | apply pw_below_drewN | apply below_drew1) | exact HB.out)⟩⟩
            case rest =>
             clear HC29
             try clear c1
             try clear c2
             try clear p2
             try clear c3
             try clear p3
             try clear q3
             try clear hx3
             try clear p6
             try clear c7
             try clear c7b0
             try clear c7b1
             try clear c8
             try clear c11
             try clear c11b0
             try clear c11b1
             try clear c11b2
             try clear c13
             try clear c13b0
             try clear c13b1
             try clear c14
             try clear c15
             try clear c15b0
             try clear c15b1
             try clear c20
             try clear c20b0
             try clear c20b1
             try clear c21
             try clear c21b0
             try clear c21b1
             try clear c25
             try clear c25b0
             try clear c26
             try clear c26b0
             try clear c28
             try clear c28b0
             try clear c28b1
             try clear c31
             try clear c31b0
             try clear hx398_0
             try clear hx398_1
             try clear p2
             try clear p398
             try clear q398
             obtain ⟨kq, x2_28, rfl, HA, HJ28, HO_8, HO_10, HO_12, HB⟩ := hcut
             cases kq with
             | zero => exact absurd HA.out (by simp [crosswaylaw09_NdRow.j2])
             | succ kj28 =>
              have H := HA.out
              clear HA
              simp only [crosswaylaw09_NdRow.j2] at H
              by_cases c32 : (a0.size : Int) = 0
              ·
               rw [if_pos c32] at H
               exact absurd H (by simp)
              ·
               rw [if_neg c32] at H
               have c32b0 : ((a0.size : Int) == 0) = false := beq_eq_false_iff_ne.mpr c32
               have c32b1 : ((a0.size : Int) != 0) = true := bne_iff_ne.mpr c32
               obtain ⟨ji33, hji33⟩ : ∃ j_ : Int, (Int.tmod x2_28 (a0.size : Int)) = j_ := ⟨_, rfl⟩
               replace H : (if 0 ≤ (ji33) then (if (ji33) ≤ (a0.size : Int) then ((nd_Options.f kj28 (a0.extract 0 ((ji33) : Int).toNat)).bind fun bt399 => (if bt399.2 = 80 then (crosswaylaw09_NdRow.j3 kj28 a0 t385 t386 t390 t394 t395 x14_2 true) else (if bt399.2 = 0 then (crosswaylaw09_NdRow.j3 kj28 a0 t385 t386 t390 t394 t395 x14_2 (decide ((bt399.1.length : Int) ≥ (t386.length : Int)))) else (crosswaylaw09_NdRow.j3 kj28 a0 t385 t386 t390 t394 t395 x14_2 false)))) else (none)) else (none)) = some r := by first | (rw [hji33] at H; exact H) | (simp only [hji33] at H ⊢; exact H)
               by_cases c34 : 0 ≤ (ji33)
               ·
                rw [if_pos c34] at H
                have c34b0 := eq_true c34
                have c34b1 : decide (0 ≤ (ji33)) = true := decide_eq_true c34
                clear c34
                by_cases c35 : (ji33) ≤ (a0.size : Int)
                ·
                 rw [if_pos c35] at H
                 have c35b0 := eq_true c35
                 have c35b1 : decide ((ji33) ≤ (a0.size : Int)) = true := decide_eq_true c35
                 clear c35
                 replace H := Option.bind_eq_some_iff.mp H
                 obtain ⟨⟨t399, t400⟩, A360, H⟩ := H
                 replace H : (if t400 = 80 then (crosswaylaw09_NdRow.j3 kj28 a0 t385 t386 t390 t394 t395 x14_2 true) else (if t400 = 0 then (crosswaylaw09_NdRow.j3 kj28 a0 t385 t386 t390 t394 t395 x14_2 (decide ((t399.length : Int) ≥ (t386.length : Int)))) else (crosswaylaw09_NdRow.j3 kj28 a0 t385 t386 t390 t394 t395 x14_2 false))) = some r := H
                 have A36 := Aside0.mk A360
                 clear A360
                 have HC37 := Aside0.mk H
                 clear H
                 go_upto_region 22 with (first | ((with_reducible refine gate_callee (f := 13) rfl ?_); refine goesL_ (some 104) rfl rfl Try.func13 (by kernel_rfl) rfl #[.string (a0.extract 0 ((ji33) : Int).toNat)] rfl (by (try simp only [List.map_toArray, List.map_cons, List.map_nil]); first | done | (simp only [hji33]; rfl) | rfl | (simp only [List.length_drop, List.length_take]; rfl)) ?_; (with_reducible refine (nd_Options.calls kj28 (a0.extract 0 ((ji33) : Int).toNat) t399 t400 _ A36.out).mono ?_); rintro e w38 ⟨v401, rfl, ho0, hb⟩; refine ⟨_, rfl, ?_⟩; have n0_ := Aside0.mk (Kd.R_elder' (by (with_reducible repeat (first | apply Kd.R_alloc | apply Kd.R_drewN | apply Kd.R_drew)); exact HO_8.out) (Kd.R_base ho0) hb); have n1_ := Aside0.mk (Kd.R_elder' (by (with_reducible repeat (first | apply Kd.R_alloc | apply Kd.R_drewN | apply Kd.R_drew)); exact HO_10.out) (Kd.R_base ho0) hb); have n2_ := Aside0.mk (Kd.R_elder' (by (with_reducible repeat (first | apply Kd.R_alloc | apply Kd.R_drewN | apply Kd.R_drew)); exact HO_12.out) (Kd.R_base ho0) hb); have n3_ := Aside0.mk (Kd.R_lower (Kd.R_new' (Kd.R_new' (Kd.R_new' ho0 (Kd.R_lt (by (with_reducible repeat (first | apply Kd.R_alloc | apply Kd.R_drewN | apply Kd.R_drew)); exact HO_8.out))) (Kd.R_lt (by (with_reducible repeat (first | apply Kd.R_alloc | apply Kd.R_drewN | apply Kd.R_drew)); exact HO_10.out))) (Kd.R_lt (by (with_reducible repeat (first | apply Kd.R_alloc | apply Kd.R_drewN | apply Kd.R_drew)); exact HO_12.out))) (below_size (by repeat (first | (with_reducible first | exact HB.out | apply below_alloc | apply pw_below_drewN | apply below_drew1) | exact HB.out)))); have n4_ := Aside0.mk (below_step (by repeat (first | (with_reducible first | exact HB.out | apply below_alloc | apply pw_below_drewN | apply below_drew1) | exact HB.out)) hb); clear HO_8; clear HO_10; clear HO_12; clear HB; have HO_8 := n0_; have HO_10 := n1_; have HO_12 := n2_; have HO402 := n3_; have HB := n4_; clear n0_ n1_ n2_ n3_ n4_; (try clear hb); (try clear hb2); (try clear hk); (try clear hi); (try clear ho0)))
                 (try simp only [Act.put, List.setIfInBounds_toArray, List.set_cons_zero, List.set_cons_succ])
                 go_cut [119] (fun v119 wc => ∃ (kq : Nat) (x119_36 : Bool), v119 = .bool x119_36 ∧ Aside0 (crosswaylaw09_NdRow.j3 kq a0 t385 t386 t390 t394 t395 x14_2 x119_36 = some r) ∧ Aside0 (kq ≤ kj28) ∧ Aside0 (Kd.R k43 43 wc w.heap.size (fun k_ => some k_ ≠ (v392 : Value).ownBlock ∧ some k_ ≠ (v396 : Value).ownBlock) (.slice Ao30 t386.length co30) t386) ∧ Aside0 (Kd.R k43 43 wc w.heap.size (fun k_ => some k_ ≠ ((.slice Ao30 t386.length co30) : Value).ownBlock ∧ some k_ ≠ (v396 : Value).ownBlock) v392 t390) ∧ Aside0 (Kd.R k43 43 wc w.heap.size (fun k_ => some k_ ≠ ((.slice Ao30 t386.length co30) : Value).ownBlock ∧ some k_ ≠ (v392 : Value).ownBlock) v396 t394) ∧ Aside0 (Below w.heap.size w wc))
                 case first =>
                  have H := HC37.out
                  clear HC37
                  by_cases c39 : t400 = 80
                  ·
                   rw [if_pos c39] at H
                   have c39b0 : (t400 == 80) = true := beq_iff_eq.mpr c39
                   have c39b1 : (t400 != 80) = false := bne_eq_false_iff_eq.mpr c39
                   clear c39
                   (first | rw [c39b0] | (simp only [i64_w, i32_w]; rw [c39b0]) | skip)
                   have H' := Aside0.mk H
                   clear H
                   go_wp2
                   go_meet
                   case rel => exact ⟨_, (true), (by first | rfl | (simp; done) | (simp [*]; done)), H', ⟨by have := HJ4.out; have := HK2.out; have := HJ28.out; first | omega | exact Nat.le_refl _⟩, ⟨by (with_reducible repeat (first | apply Kd.R_alloc | apply Kd.R_drewN | apply Kd.R_drew)); exact Kd.R_mono HO_8.out (fun _ hk => ⟨hk.1.1, hk.1.2⟩)⟩, ⟨by (with_reducible repeat (first | apply Kd.R_alloc | apply Kd.R_drewN | apply Kd.R_drew)); exact Kd.R_mono HO_10.out (fun _ hk => ⟨hk.1.1, hk.1.2⟩)⟩, ⟨by (with_reducible repeat (first | apply Kd.R_alloc | apply Kd.R_drewN | apply Kd.R_drew)); exact Kd.R_mono HO_12.out (fun _ hk => ⟨hk.1.1, hk.1.2⟩)⟩, ⟨by repeat (first | (with_reducible first | exact HB.out | apply below_alloc | apply pw_below_drewN | apply below_drew1) | exact HB.out)⟩⟩
                  ·
                   rw [if_neg c39] at H
                   have c39b0 : (t400 == 80) = false := beq_eq_false_iff_ne.mpr c39
                   have c39b1 : (t400 != 80) = true := bne_iff_ne.mpr c39
                   (first | rw [c39b0] | (simp only [i64_w, i32_w]; rw [c39b0]) | skip)
                   by_cases c40 : t400 = 0
                   ·
                    rw [if_pos c40] at H
                    have c40b0 : (t400 == 0) = true := beq_iff_eq.mpr c40
                    have c40b1 : (t400 != 0) = false := bne_eq_false_iff_eq.mpr c40
                    clear c40
                    have H' := Aside0.mk H
                    clear H
                    obtain ⟨Ao41, co41, eo41⟩ := Kd.R_slice HO402.out
                    subst eo41
                    go_wp2
                    go_meet
                    case rel => exact ⟨_, (decide ((t399.length : Int) ≥ (t386.length : Int))), (by first | rfl | (simp; done) | (simp [*]; done)), H', ⟨by have := HJ4.out; have := HK2.out; have := HJ28.out; first | omega | exact Nat.le_refl _⟩, ⟨by (with_reducible repeat (first | apply Kd.R_alloc | apply Kd.R_drewN | apply Kd.R_drew)); exact Kd.R_mono HO_8.out (fun _ hk => ⟨hk.1.1, hk.1.2⟩)⟩, ⟨by (with_reducible repeat (first | apply Kd.R_alloc | apply Kd.R_drewN | apply Kd.R_drew)); exact Kd.R_mono HO_10.out (fun _ hk => ⟨hk.1.1, hk.1.2⟩)⟩, ⟨by (with_reducible repeat (first | apply Kd.R_alloc | apply Kd.R_drewN | apply Kd.R_drew)); exact Kd.R_mono HO_12.out (fun _ hk => ⟨hk.1.1, hk.1.2⟩)⟩, ⟨by repeat (first | (with_reducible first | exact HB.out | apply below_alloc | apply pw_below_drewN | apply below_drew1) | exact HB.out)⟩⟩
                   ·
                    rw [if_neg c40] at H
                    have c40b0 : (t400 == 0) = false := beq_eq_false_iff_ne.mpr c40
                    have c40b1 : (t400 != 0) = true := bne_iff_ne.mpr c40
                    have H' := Aside0.mk H
                    clear H
                    go_wp2
                    go_meet
                    case rel => exact ⟨_, (false), (by first | rfl | (simp; done) | (simp [*]; done)), H', ⟨by have := HJ4.out; have := HK2.out; have := HJ28.out; first | omega | exact Nat.le_refl _⟩, ⟨by (with_reducible repeat (first | apply Kd.R_alloc | apply Kd.R_drewN | apply Kd.R_drew)); exact Kd.R_mono HO_8.out (fun _ hk => ⟨hk.1.1, hk.1.2⟩)⟩, ⟨by (with_reducible repeat (first | apply Kd.R_alloc | apply Kd.R_drewN | apply Kd.R_drew)); exact Kd.R_mono HO_10.out (fun _ hk => ⟨hk.1.1, hk.1.2⟩)⟩, ⟨by (with_reducible repeat (first | apply Kd.R_alloc | apply Kd.R_drewN | apply Kd.R_drew)); exact Kd.R_mono HO_12.out (fun _ hk => ⟨hk.1.1, hk.1.2⟩)⟩, ⟨by repeat (first | (with_reducible first | exact HB.out | apply below_alloc | apply pw_below_drewN | apply below_drew1) | exact HB.out)⟩⟩
                 case rest =>
                  clear HC37
                  try clear c1
                  try clear c2
                  try clear p2
                  try clear c3
                  try clear p3
                  try clear q3
                  try clear hx3
                  try clear c4
                  try clear p6
                  try clear c7
                  try clear c7b0
                  try clear c7b1
                  try clear c8
                  try clear c11
                  try clear c11b0
                  try clear c11b1
                  try clear c11b2
                  try clear c13
                  try clear c13b0
                  try clear c13b1
                  try clear c14
                  try clear c15
                  try clear c15b0
                  try clear c15b1
                  try clear c20
                  try clear c20b0
                  try clear c20b1
                  try clear c21
                  try clear c21b0
                  try clear c21b1
                  try clear c25
                  try clear c25b0
                  try clear c26
                  try clear c26b0
                  try clear c28
                  try clear c28b0
                  try clear c28b1
                  try clear c31
                  try clear c31b0
                  try clear c32
                  try clear c32b0
                  try clear c32b1
                  try clear c34
                  try clear c34b0
                  try clear c34b1
                  try clear c35
                  try clear c35b0
                  try clear c35b1
                  try clear c39
                  try clear c39b0
                  try clear c39b1
                  try clear p39
                  try clear q39
                  try clear hx39
                  try clear c40
                  try clear c40b0
                  try clear c40b1
                  try clear hx398_0
                  try clear hx398_1
                  try clear p2
                  try clear p3
                  try clear p398
                  try clear p6
                  try clear q3
                  try clear q398
                  obtain ⟨kq, x119_36, rfl, HA, HJ36, HO_8, HO_10, HO_12, HB⟩ := hcut
                  cases kq with
                  | zero => exact absurd HA.out (by simp [crosswaylaw09_NdRow.j3])
                  | succ kj36 =>
                   have H := HA.out
                   clear HA
                   simp only [crosswaylaw09_NdRow.j3] at H
                   by_cases c42 : x119_36 = true
                   ·
                    subst c42
                    rw [if_pos rfl] at H
                    exact absurd ((Option.some.inj H).trans HRT.out) (by decide)
                   ·
                    replace c42 := Bool.eq_false_iff.mpr c42
                    subst c42
                    rw [if_neg (show ¬ (false = true) by decide)] at H
                    by_cases c43 : t385 = true
                    ·
                     subst c43
                     rw [if_pos rfl] at H
                     by_cases c44 : t395 = 0
                     ·
                      rw [if_pos c44] at H
                      have c44b0 : (t395 == 0) = true := beq_iff_eq.mpr c44
                      have c44b1 : (t395 != 0) = false := bne_eq_false_iff_eq.mpr c44
                      clear c44
                      by_cases c45 : x14_2 = (a0.size : Int)
                      ·
                       rw [if_pos c45] at H
                       have c45b0 : (x14_2 == (a0.size : Int)) = true := beq_iff_eq.mpr c45
                       have c45b1 : (x14_2 != (a0.size : Int)) = false := bne_eq_false_iff_eq.mpr c45
                       clear c45
                       by_cases c46 : 0 ≤ (t386.length : Int)
                       ·
                        rw [if_pos c46] at H
                        have c46b0 := eq_true c46
                        have c46b1 : decide (0 ≤ (t386.length : Int)) = true := decide_eq_true c46
                        clear c46
                        by_cases c47 : (t386.length : Int) ≤ (t394.length : Int)
                        ·
                         rw [if_pos c47] at H
                         have c47b0 := eq_true c47
                         have c47b1 : decide ((t386.length : Int) ≤ (t394.length : Int)) = true := decide_eq_true c47
                         clear c47
                         obtain ⟨y403, hy403⟩ : ∃ y_ : List (S43), y_ = (t394.take ((t386.length : Int) : Int).toNat) := ⟨_, rfl⟩
                         replace H : ((crosswaylaw09_same.f kj36 y403 t386).bind fun t407 => (if t407 = true then ((crosswaylaw09_same.f kj36 (t394.drop ((t386.length : Int) : Int).toNat) t390).bind fun t412 => (some t412)) else (some false))) = some r := by first | (rw [hy403]; with_reducible exact H) | (have H2_ := (Option.bind_some _ _).symm.trans H; rw [hy403]; with_reducible exact H2_) | (have H2_ := (Option.bind_some _ _).symm.trans H; with_reducible exact H2_) | with_reducible exact H | (rw [hy403]; exact H) | exact H
                         have Ny403 := Aside0.mk hy403
                         clear hy403
                         replace H := Option.bind_eq_some_iff.mp H
                         obtain ⟨t407, A480, H⟩ := H
                         have A48 := Aside0.mk A480
                         clear A480
                         by_cases c49 : t407 = true
                         ·
                          subst c49
                          rw [if_pos rfl] at H
                          have c50b0 := eq_true (of_decide_eq_true (by first | (with_reducible assumption) | assumption) : 0 ≤ (t386.length : Int))
                          have c51b0 := eq_true (of_decide_eq_true (by first | (with_reducible assumption) | assumption) : (t386.length : Int) ≤ (t394.length : Int))
                          obtain ⟨y408, hy408⟩ : ∃ y_ : List (S43), y_ = (t394.drop ((t386.length : Int) : Int).toNat) := ⟨_, rfl⟩
                          replace H : ((crosswaylaw09_same.f kj36 y408 t390).bind fun t412 => (some t412)) = some r := by first | (rw [hy408]; with_reducible exact H) | (have H2_ := (Option.bind_some _ _).symm.trans H; rw [hy408]; with_reducible exact H2_) | (have H2_ := (Option.bind_some _ _).symm.trans H; with_reducible exact H2_) | with_reducible exact H | (rw [hy408]; exact H) | exact H
                          have Ny408 := Aside0.mk hy408
                          clear hy408
                          replace H := Option.bind_eq_some_iff.mp H
                          obtain ⟨t412, A520, H⟩ := H
                          have A52 := Aside0.mk A520
                          clear A520
                          obtain rfl := Option.some.inj H
                          obtain ⟨Ao54, co54, eo54⟩ := Kd.R_slice HO_12.out
                          subst eo54
                          have q53 : ((t386.length : Int) : Int) ≤ ((t394.length : Int) : Int) := of_decide_eq_true (by first | (with_reducible assumption) | assumption)
                          obtain ⟨i053, hi053, _, hsz53, _⟩ := info_parts info43
                          have hroom53 : t394.length ≤ co54 := (Kd.R_reads' HO_12.out).2.1
                          have hC53 : Kd.C k43 _ Ao54 t394.length t394 := (Kd.R_reads' HO_12.out).2.2
                          have hcut53 := cut_to (P := Try.prog) 38 43 .i64 Try.underlying38 hi053 Ao54 t394.length co54 (t386.length : Int) (of_decide_eq_true (by first | (with_reducible assumption) | assumption)) q53 hroom53
                          have hr53 := Kd.C_take (m := ((t386.length : Int) : Int).toNat) hC53 (by omega)
                          have hy53 : y403.length = ((t386.length : Int) : Int).toNat := (by rw [Ny403.out, List.length_take]; omega)
                          rw [← Ny403.out] at hr53
                          rw [← hy53] at hcut53
                          have HR406 := Aside0.mk hr53
                          have HC406 := Aside0.mk (show y403.length ≤ co54 from by omega)
                          clear hr53 hC53 hroom53 hi053 hsz53
                          have KY53 := Aside0.mk hy53
                          clear hy53
                          have KL53 := Aside0.mk (show ((t386.length : Int) : Int).toNat ≤ t394.length from by omega)
                          replace q53 := eq_true q53
                          go_wp2_with (first | (go_at_call 15; (with_reducible refine (crosswaylaw09_same.calls kj36 _ _ y403 _ _ t386 true _ ?side1 ?side2 ?side3 ?side4 A48.out).mono ?_); (case side1 => repeat (first | exact (by repeat (first | (with_reducible exact HR406.out) | (with_reducible refine Kd.C_alloc ?_ _) | (with_reducible refine Kd.C_drewN ?_ _) | (with_reducible refine Kd.C_drew ?_) | exact HR406.out)) | (with_reducible refine Kd.C_alloc ?_ _) | (with_reducible refine Kd.C_drewN ?_ _) | (with_reducible refine Kd.C_drew ?_))); (case side2 => exact HC406.out); (case side3 => repeat (first | exact (Kd.R_reads' HO_8.out).2.2 | (with_reducible refine Kd.C_alloc ?_ _) | (with_reducible refine Kd.C_drewN ?_ _) | (with_reducible refine Kd.C_drew ?_))); (case side4 => exact (Kd.R_reads' HO_8.out).2.1); rintro e w' ⟨rfl, ⟨nd, rfl⟩⟩; have q55 : ((t386.length : Int) : Int) ≤ ((t394.length : Int) : Int) := of_decide_eq_true (by first | (with_reducible assumption) | assumption); obtain ⟨i055, hi055, _, hsz55, _⟩ := info_parts info43; have hroom55 : t394.length ≤ co54 := (Kd.R_reads' HO_12.out).2.1; have hC55 : Kd.C k43 _ Ao54 t394.length t394 := (Kd.R_reads' HO_12.out).2.2; have q055 : (0 : Int) ≤ ((t386.length : Int) : Int) := of_decide_eq_true (by first | (with_reducible assumption) | assumption); have hcut55 := cut_from (P := Try.prog) 38 43 .i64 Try.underlying38 hi055 2 hsz55 Ao54 t394.length co54 (t386.length : Int) q055 q55; have hr55 := Kd.C_drop (m := ((t386.length : Int) : Int).toNat) (c := co54) hC55 (by omega) hroom55; obtain ⟨A55, hA55⟩ : ∃ A1, A1 = (if co54 = ((t386.length : Int) : Int).toNat then Ao54 else (Ao54 : Option Addr).map (·.add (((t386.length : Int) : Int).toNat * 2))) := ⟨_, rfl⟩; obtain ⟨c55, hc55⟩ : ∃ c1, c1 = co54 - ((t386.length : Int) : Int).toNat := ⟨_, rfl⟩; have hy55 : y408.length = t394.length - ((t386.length : Int) : Int).toNat := (by rw [Ny408.out, List.length_drop] <;> omega); rw [show (t394).drop ((t386.length : Int) : Int).toNat = y408 from Ny408.out.symm] at hr55; replace hr55 : Kd.C k43 _ A55 y408.length y408 := (by rw [hA55]; exact hr55); rw [← hy55, ← hA55, ← hc55] at hcut55; have HR411 := Aside0.mk hr55; have HC411 := Aside0.mk (show y408.length ≤ c55 from by rw [hy55, hc55]; exact Nat.sub_le_sub_right hroom55 _); clear hr55 hC55 hroom55 hi055 hsz55 hc55; have KY55 := Aside0.mk hy55; have KA55 := Aside0.mk hA55; clear hy55 hA55; have KL55 := Aside0.mk (show ((t386.length : Int) : Int).toNat ≤ t394.length from by omega); replace q55 := eq_true q55; obtain ⟨Ao56, co56, eo56⟩ := Kd.R_slice HO_10.out; subst eo56) | (go_at_call 15; (with_reducible refine (crosswaylaw09_same.calls kj36 _ _ y408 _ _ t390 t412 _ ?side1 ?side2 ?side3 ?side4 A52.out).mono ?_); (case side1 => repeat (first | exact (by repeat (first | (with_reducible exact HR411.out) | (with_reducible refine Kd.C_alloc ?_ _) | (with_reducible refine Kd.C_drewN ?_ _) | (with_reducible refine Kd.C_drew ?_) | exact HR411.out)) | (with_reducible refine Kd.C_alloc ?_ _) | (with_reducible refine Kd.C_drewN ?_ _) | (with_reducible refine Kd.C_drew ?_))); (case side2 => exact HC411.out); (case side3 => repeat (first | exact (Kd.R_reads' HO_10.out).2.2 | (with_reducible refine Kd.C_alloc ?_ _) | (with_reducible refine Kd.C_drewN ?_ _) | (with_reducible refine Kd.C_drew ?_))); (case side4 => exact (Kd.R_reads' HO_10.out).2.1); rintro e w' ⟨rfl, ⟨nd, rfl⟩⟩))
                          go_ret
                          exact ⟨by first | rfl | (simp [errW_none, errW_some] <;> rfl) | (simp only [← hji33]; first | rfl | (simp [errW_none, errW_some] <;> rfl)) | (simp [*, errW_none, errW_some] <;> rfl), by repeat (first | (with_reducible first | exact HB.out | apply below_alloc | apply pw_below_drewN | apply below_drew1) | exact HB.out)⟩
                         ·
                          replace c49 := Bool.eq_false_iff.mpr c49
                          subst c49
                          rw [if_neg (show ¬ (false = true) by decide)] at H
                          exact absurd ((Option.some.inj H).trans HRT.out) (by decide)
                        ·
                         rw [if_neg c47] at H
                         exact absurd H (by simp)
                       ·
                        rw [if_neg c46] at H
                        exact absurd H (by simp)
                      ·
                       rw [if_neg c45] at H
                       have c45b0 : (x14_2 == (a0.size : Int)) = false := beq_eq_false_iff_ne.mpr c45
                       have c45b1 : (x14_2 != (a0.size : Int)) = true := bne_iff_ne.mpr c45
                       exact absurd ((Option.some.inj H).trans HRT.out) (by decide)
                     ·
                      rw [if_neg c44] at H
                      have c44b0 : (t395 == 0) = false := beq_eq_false_iff_ne.mpr c44
                      have c44b1 : (t395 != 0) = true := bne_iff_ne.mpr c44
                      exact absurd ((Option.some.inj H).trans HRT.out) (by decide)
                    ·
                     replace c43 := Bool.eq_false_iff.mpr c43
                     subst c43
                     rw [if_neg (show ¬ (false = true) by decide)] at H
                     exact absurd ((Option.some.inj H).trans HRT.out) (by decide)
                ·
                 rw [if_neg c35] at H
                 exact absurd H (by simp)
               ·
                rw [if_neg c34] at H
                exact absurd H (by simp)
           ·
            rw [if_neg c28] at H
            have c28b0 : decide (0 < (a0.size : Int)) = false := decide_eq_false c28
            have c28b1 : decide (0 < a0.size) = false := decide_eq_false (by omega)
            clear c28
            by_cases c57 : t385 = true
            ·
             subst c57
             rw [if_pos rfl] at H
             by_cases c58 : t395 = 0
             ·
              rw [if_pos c58] at H
              have c58b0 : (t395 == 0) = true := beq_iff_eq.mpr c58
              have c58b1 : (t395 != 0) = false := bne_eq_false_iff_eq.mpr c58
              clear c58
              by_cases c59 : x14_2 = (a0.size : Int)
              ·
               rw [if_pos c59] at H
               have c59b0 : (x14_2 == (a0.size : Int)) = true := beq_iff_eq.mpr c59
               have c59b1 : (x14_2 != (a0.size : Int)) = false := bne_eq_false_iff_eq.mpr c59
               clear c59
               by_cases c60 : 0 ≤ (t386.length : Int)
               ·
                rw [if_pos c60] at H
                have c60b0 := eq_true c60
                have c60b1 : decide (0 ≤ (t386.length : Int)) = true := decide_eq_true c60
                clear c60
                by_cases c61 : (t386.length : Int) ≤ (t394.length : Int)
                ·
                 rw [if_pos c61] at H
                 have c61b0 := eq_true c61
                 have c61b1 : decide ((t386.length : Int) ≤ (t394.length : Int)) = true := decide_eq_true c61
                 clear c61
                 obtain ⟨y413, hy413⟩ : ∃ y_ : List (S43), y_ = (t394.take ((t386.length : Int) : Int).toNat) := ⟨_, rfl⟩
                 replace H : ((crosswaylaw09_same.f k2 y413 t386).bind fun t417 => (if t417 = true then ((crosswaylaw09_same.f k2 (t394.drop ((t386.length : Int) : Int).toNat) t390).bind fun t422 => (some t422)) else (some false))) = some r := by first | (rw [hy413]; with_reducible exact H) | (have H2_ := (Option.bind_some _ _).symm.trans H; rw [hy413]; with_reducible exact H2_) | (have H2_ := (Option.bind_some _ _).symm.trans H; with_reducible exact H2_) | with_reducible exact H | (rw [hy413]; exact H) | exact H
                 have Ny413 := Aside0.mk hy413
                 clear hy413
                 replace H := Option.bind_eq_some_iff.mp H
                 obtain ⟨t417, A620, H⟩ := H
                 have A62 := Aside0.mk A620
                 clear A620
                 by_cases c63 : t417 = true
                 ·
                  subst c63
                  rw [if_pos rfl] at H
                  have c64b0 := eq_true (of_decide_eq_true (by first | (with_reducible assumption) | assumption) : 0 ≤ (t386.length : Int))
                  have c65b0 := eq_true (of_decide_eq_true (by first | (with_reducible assumption) | assumption) : (t386.length : Int) ≤ (t394.length : Int))
                  obtain ⟨y418, hy418⟩ : ∃ y_ : List (S43), y_ = (t394.drop ((t386.length : Int) : Int).toNat) := ⟨_, rfl⟩
                  replace H : ((crosswaylaw09_same.f k2 y418 t390).bind fun t422 => (some t422)) = some r := by first | (rw [hy418]; with_reducible exact H) | (have H2_ := (Option.bind_some _ _).symm.trans H; rw [hy418]; with_reducible exact H2_) | (have H2_ := (Option.bind_some _ _).symm.trans H; with_reducible exact H2_) | with_reducible exact H | (rw [hy418]; exact H) | exact H
                  have Ny418 := Aside0.mk hy418
                  clear hy418
                  replace H := Option.bind_eq_some_iff.mp H
                  obtain ⟨t422, A660, H⟩ := H
                  have A66 := Aside0.mk A660
                  clear A660
                  obtain rfl := Option.some.inj H
                  obtain ⟨Ao67, co67, eo67⟩ := Kd.R_slice HO_8.out
                  subst eo67
                  obtain ⟨Ao69, co69, eo69⟩ := Kd.R_slice HO_12.out
                  subst eo69
                  have q68 : ((t386.length : Int) : Int) ≤ ((t394.length : Int) : Int) := of_decide_eq_true (by first | (with_reducible assumption) | assumption)
                  obtain ⟨i068, hi068, _, hsz68, _⟩ := info_parts info43
                  have hroom68 : t394.length ≤ co69 := (Kd.R_reads' HO_12.out).2.1
                  have hC68 : Kd.C k43 _ Ao69 t394.length t394 := (Kd.R_reads' HO_12.out).2.2
                  have hcut68 := cut_to (P := Try.prog) 38 43 .i64 Try.underlying38 hi068 Ao69 t394.length co69 (t386.length : Int) (of_decide_eq_true (by first | (with_reducible assumption) | assumption)) q68 hroom68
                  have hr68 := Kd.C_take (m := ((t386.length : Int) : Int).toNat) hC68 (by omega)
                  have hy68 : y413.length = ((t386.length : Int) : Int).toNat := (by rw [Ny413.out, List.length_take]; omega)
                  rw [← Ny413.out] at hr68
                  rw [← hy68] at hcut68
                  have HR416 := Aside0.mk hr68
                  have HC416 := Aside0.mk (show y413.length ≤ co69 from by omega)
                  clear hr68 hC68 hroom68 hi068 hsz68
                  have KY68 := Aside0.mk hy68
                  clear hy68
                  have KL68 := Aside0.mk (show ((t386.length : Int) : Int).toNat ≤ t394.length from by omega)
                  replace q68 := eq_true q68
                  go_wp2_with (first | (go_at_call 15; (with_reducible refine (crosswaylaw09_same.calls k2 _ _ y413 _ _ t386 true _ ?side1 ?side2 ?side3 ?side4 A62.out).mono ?_); (case side1 => repeat (first | exact (by repeat (first | (with_reducible exact HR416.out) | (with_reducible refine Kd.C_alloc ?_ _) | (with_reducible refine Kd.C_drewN ?_ _) | (with_reducible refine Kd.C_drew ?_) | exact HR416.out)) | (with_reducible refine Kd.C_alloc ?_ _) | (with_reducible refine Kd.C_drewN ?_ _) | (with_reducible refine Kd.C_drew ?_))); (case side2 => exact HC416.out); (case side3 => repeat (first | exact (Kd.R_reads' HO_8.out).2.2 | (with_reducible refine Kd.C_alloc ?_ _) | (with_reducible refine Kd.C_drewN ?_ _) | (with_reducible refine Kd.C_drew ?_))); (case side4 => exact (Kd.R_reads' HO_8.out).2.1); rintro e w' ⟨rfl, ⟨nd, rfl⟩⟩; have q70 : ((t386.length : Int) : Int) ≤ ((t394.length : Int) : Int) := of_decide_eq_true (by first | (with_reducible assumption) | assumption); obtain ⟨i070, hi070, _, hsz70, _⟩ := info_parts info43; have hroom70 : t394.length ≤ co69 := (Kd.R_reads' HO_12.out).2.1; have hC70 : Kd.C k43 _ Ao69 t394.length t394 := (Kd.R_reads' HO_12.out).2.2; have q070 : (0 : Int) ≤ ((t386.length : Int) : Int) := of_decide_eq_true (by first | (with_reducible assumption) | assumption); have hcut70 := cut_from (P := Try.prog) 38 43 .i64 Try.underlying38 hi070 2 hsz70 Ao69 t394.length co69 (t386.length : Int) q070 q70; have hr70 := Kd.C_drop (m := ((t386.length : Int) : Int).toNat) (c := co69) hC70 (by omega) hroom70; obtain ⟨A70, hA70⟩ : ∃ A1, A1 = (if co69 = ((t386.length : Int) : Int).toNat then Ao69 else (Ao69 : Option Addr).map (·.add (((t386.length : Int) : Int).toNat * 2))) := ⟨_, rfl⟩; obtain ⟨c70, hc70⟩ : ∃ c1, c1 = co69 - ((t386.length : Int) : Int).toNat := ⟨_, rfl⟩; have hy70 : y418.length = t394.length - ((t386.length : Int) : Int).toNat := (by rw [Ny418.out, List.length_drop] <;> omega); rw [show (t394).drop ((t386.length : Int) : Int).toNat = y418 from Ny418.out.symm] at hr70; replace hr70 : Kd.C k43 _ A70 y418.length y418 := (by rw [hA70]; exact hr70); rw [← hy70, ← hA70, ← hc70] at hcut70; have HR421 := Aside0.mk hr70; have HC421 := Aside0.mk (show y418.length ≤ c70 from by rw [hy70, hc70]; exact Nat.sub_le_sub_right hroom70 _); clear hr70 hC70 hroom70 hi070 hsz70 hc70; have KY70 := Aside0.mk hy70; have KA70 := Aside0.mk hA70; clear hy70 hA70; have KL70 := Aside0.mk (show ((t386.length : Int) : Int).toNat ≤ t394.length from by omega); replace q70 := eq_true q70; obtain ⟨Ao71, co71, eo71⟩ := Kd.R_slice HO_10.out; subst eo71) | (go_at_call 15; (with_reducible refine (crosswaylaw09_same.calls k2 _ _ y418 _ _ t390 t422 _ ?side1 ?side2 ?side3 ?side4 A66.out).mono ?_); (case side1 => repeat (first | exact (by repeat (first | (with_reducible exact HR421.out) | (with_reducible refine Kd.C_alloc ?_ _) | (with_reducible refine Kd.C_drewN ?_ _) | (with_reducible refine Kd.C_drew ?_) | exact HR421.out)) | (with_reducible refine Kd.C_alloc ?_ _) | (with_reducible refine Kd.C_drewN ?_ _) | (with_reducible refine Kd.C_drew ?_))); (case side2 => exact HC421.out); (case side3 => repeat (first | exact (Kd.R_reads' HO_10.out).2.2 | (with_reducible refine Kd.C_alloc ?_ _) | (with_reducible refine Kd.C_drewN ?_ _) | (with_reducible refine Kd.C_drew ?_))); (case side4 => exact (Kd.R_reads' HO_10.out).2.1); rintro e w' ⟨rfl, ⟨nd, rfl⟩⟩))
                  go_ret
                  exact ⟨by first | rfl | (simp [errW_none, errW_some] <;> rfl) | (simp [*, errW_none, errW_some] <;> rfl), by repeat (first | (with_reducible first | exact HB.out | apply below_alloc | apply pw_below_drewN | apply below_drew1) | exact HB.out)⟩
                 ·
                  replace c63 := Bool.eq_false_iff.mpr c63
                  subst c63
                  rw [if_neg (show ¬ (false = true) by decide)] at H
                  exact absurd ((Option.some.inj H).trans HRT.out) (by decide)
                ·
                 rw [if_neg c61] at H
                 exact absurd H (by simp)
               ·
                rw [if_neg c60] at H
                exact absurd H (by simp)
              ·
               rw [if_neg c59] at H
               have c59b0 : (x14_2 == (a0.size : Int)) = false := beq_eq_false_iff_ne.mpr c59
               have c59b1 : (x14_2 != (a0.size : Int)) = true := bne_iff_ne.mpr c59
               exact absurd ((Option.some.inj H).trans HRT.out) (by decide)
             ·
              rw [if_neg c58] at H
              have c58b0 : (t395 == 0) = false := beq_eq_false_iff_ne.mpr c58
              have c58b1 : (t395 != 0) = true := bne_iff_ne.mpr c58
              exact absurd ((Option.some.inj H).trans HRT.out) (by decide)
            ·
             replace c57 := Bool.eq_false_iff.mpr c57
             subst c57
             rw [if_neg (show ¬ (false = true) by decide)] at H
             exact absurd ((Option.some.inj H).trans HRT.out) (by decide)
       ·
        rw [if_neg c21] at H
        have c21b0 : (t391 == 0) = false := beq_eq_false_iff_ne.mpr c21
        have c21b1 : (t391 != 0) = true := bne_iff_ne.mpr c21
        by_cases c72 : t385 = true
        ·
         subst c72
         rw [if_pos rfl] at H
         by_cases c73 : t395 = t391
         ·
          rw [if_pos c73] at H
          have c73b0 : (t395 == t391) = true := beq_iff_eq.mpr c73
          have c73b1 : (t395 != t391) = false := bne_eq_false_iff_eq.mpr c73
          clear c73
          obtain rfl := Option.some.inj H
          go_wp2_with (first | ((with_reducible refine gate_callee (f := 13) rfl ?_); refine goesL_ (some 30) rfl rfl Try.func13 (by kernel_rfl) rfl #[.string a0] rfl (by (try simp only [List.map_toArray, List.map_cons, List.map_nil]); first | done | rfl | (simp only [List.length_drop, List.length_take]; rfl)) ?_; (with_reducible refine (nd_Options.calls kj4 a0 t386 t387 _ A9.out).mono ?_); rintro e w74 ⟨v388, rfl, ho0, hb⟩; refine ⟨_, rfl, ?_⟩; have n0_ := Aside0.mk (Kd.R_lower ho0 (below_size (by repeat (first | (with_reducible first | exact HB.out | apply below_alloc | apply pw_below_drewN | apply below_drew1) | exact HB.out)))); have n1_ := Aside0.mk (below_step (by repeat (first | (with_reducible first | exact HB.out | apply below_alloc | apply pw_below_drewN | apply below_drew1) | exact HB.out)) hb); clear HB; have HO389 := n0_; have HB := n1_; clear n0_ n1_; (try clear hb); (try clear hb2); (try clear hk); (try clear hi); (try clear ho0)) | ((with_reducible refine gate_callee (f := 13) rfl ?_); refine goesL_ (some 35) rfl rfl Try.func13 (by kernel_rfl) rfl #[.string a1] rfl (by (try simp only [List.map_toArray, List.map_cons, List.map_nil]); first | done | rfl | (simp only [List.length_drop, List.length_take]; rfl)) ?_; (with_reducible refine (nd_Options.calls kj4 a1 t390 t391 _ A10.out).mono ?_); rintro e w75 ⟨v392, rfl, ho0, hb⟩; refine ⟨_, rfl, ?_⟩; have n0_ := Aside0.mk (Kd.R_elder' (by (with_reducible repeat (first | apply Kd.R_alloc | apply Kd.R_drewN | apply Kd.R_drew)); exact HO389.out) (Kd.R_base ho0) hb); have n1_ := Aside0.mk (Kd.R_lower (Kd.R_new' ho0 (Kd.R_lt (by (with_reducible repeat (first | apply Kd.R_alloc | apply Kd.R_drewN | apply Kd.R_drew)); exact HO389.out))) (below_size (by repeat (first | (with_reducible first | exact HB.out | apply below_alloc | apply pw_below_drewN | apply below_drew1) | exact HB.out)))); have n2_ := Aside0.mk (below_step (by repeat (first | (with_reducible first | exact HB.out | apply below_alloc | apply pw_below_drewN | apply below_drew1) | exact HB.out)) hb); clear HO389; clear HB; have HO389 := n0_; have HO393 := n1_; have HB := n2_; clear n0_ n1_ n2_; (try clear hb); (try clear hb2); (try clear hk); (try clear hi); (try clear ho0)) | ((with_reducible refine gate_callee (f := 13) rfl ?_); refine goesL_ (some 42) rfl rfl Try.func13 (by kernel_rfl) rfl #[.string (a0 ++ a1)] rfl (by (try simp only [List.map_toArray, List.map_cons, List.map_nil]); first | done | rfl | (simp only [List.length_drop, List.length_take]; rfl)) ?_; (with_reducible refine (nd_Options.calls kj4 (a0 ++ a1) t394 t395 _ A12.out).mono ?_); rintro e w76 ⟨v396, rfl, ho0, hb⟩; refine ⟨_, rfl, ?_⟩; have n0_ := Aside0.mk (Kd.R_elder' (by (with_reducible repeat (first | apply Kd.R_alloc | apply Kd.R_drewN | apply Kd.R_drew)); exact HO389.out) (Kd.R_base ho0) hb); have n1_ := Aside0.mk (Kd.R_elder' (by (with_reducible repeat (first | apply Kd.R_alloc | apply Kd.R_drewN | apply Kd.R_drew)); exact HO393.out) (Kd.R_base ho0) hb); have n2_ := Aside0.mk (Kd.R_lower (Kd.R_new' (Kd.R_new' ho0 (Kd.R_lt (by (with_reducible repeat (first | apply Kd.R_alloc | apply Kd.R_drewN | apply Kd.R_drew)); exact HO389.out))) (Kd.R_lt (by (with_reducible repeat (first | apply Kd.R_alloc | apply Kd.R_drewN | apply Kd.R_drew)); exact HO393.out))) (below_size (by repeat (first | (with_reducible first | exact HB.out | apply below_alloc | apply pw_below_drewN | apply below_drew1) | exact HB.out)))); have n3_ := Aside0.mk (below_step (by repeat (first | (with_reducible first | exact HB.out | apply below_alloc | apply pw_below_drewN | apply below_drew1) | exact HB.out)) hb); clear HO389; clear HO393; clear HB; have HO389 := n0_; have HO393 := n1_; have HO397 := n2_; have HB := n3_; clear n0_ n1_ n2_ n3_; (try clear hb); (try clear hb2); (try clear hk); (try clear hi); (try clear ho0); obtain ⟨Ao77, co77, eo77⟩ := Kd.R_slice HO397.out; subst eo77))
          go_ret
          exact ⟨by first | rfl | (simp [errW_none, errW_some] <;> rfl) | (simp [*, errW_none, errW_some] <;> rfl), by repeat (first | (with_reducible first | exact HB.out | apply below_alloc | apply pw_below_drewN | apply below_drew1) | exact HB.out)⟩
         ·
          rw [if_neg c73] at H
          have c73b0 : (t395 == t391) = false := beq_eq_false_iff_ne.mpr c73
          have c73b1 : (t395 != t391) = true := bne_iff_ne.mpr c73
          exact absurd ((Option.some.inj H).trans HRT.out) (by decide)
        ·
         replace c72 := Bool.eq_false_iff.mpr c72
         subst c72
         rw [if_neg (show ¬ (false = true) by decide)] at H
         exact absurd ((Option.some.inj H).trans HRT.out) (by decide)
      ·
       rw [if_neg c20] at H
       have c20b0 : (t387 == 0) = false := beq_eq_false_iff_ne.mpr c20
       have c20b1 : (t387 != 0) = true := bne_iff_ne.mpr c20
       obtain rfl := Option.some.inj H
       go_wp2_with (first | ((with_reducible refine gate_callee (f := 13) rfl ?_); refine goesL_ (some 30) rfl rfl Try.func13 (by kernel_rfl) rfl #[.string a0] rfl (by (try simp only [List.map_toArray, List.map_cons, List.map_nil]); first | done | rfl | (simp only [List.length_drop, List.length_take]; rfl)) ?_; (with_reducible refine (nd_Options.calls kj4 a0 t386 t387 _ A9.out).mono ?_); rintro e w78 ⟨v388, rfl, ho0, hb⟩; refine ⟨_, rfl, ?_⟩; have n0_ := Aside0.mk (Kd.R_lower ho0 (below_size (by repeat (first | (with_reducible first | exact HB.out | apply below_alloc | apply pw_below_drewN | apply below_drew1) | exact HB.out)))); have n1_ := Aside0.mk (below_step (by repeat (first | (with_reducible first | exact HB.out | apply below_alloc | apply pw_below_drewN | apply below_drew1) | exact HB.out)) hb); clear HB; have HO389 := n0_; have HB := n1_; clear n0_ n1_; (try clear hb); (try clear hb2); (try clear hk); (try clear hi); (try clear ho0)) | ((with_reducible refine gate_callee (f := 13) rfl ?_); refine goesL_ (some 35) rfl rfl Try.func13 (by kernel_rfl) rfl #[.string a1] rfl (by (try simp only [List.map_toArray, List.map_cons, List.map_nil]); first | done | rfl | (simp only [List.length_drop, List.length_take]; rfl)) ?_; (with_reducible refine (nd_Options.calls kj4 a1 t390 t391 _ A10.out).mono ?_); rintro e w79 ⟨v392, rfl, ho0, hb⟩; refine ⟨_, rfl, ?_⟩; have n0_ := Aside0.mk (Kd.R_elder' (by (with_reducible repeat (first | apply Kd.R_alloc | apply Kd.R_drewN | apply Kd.R_drew)); exact HO389.out) (Kd.R_base ho0) hb); have n1_ := Aside0.mk (Kd.R_lower (Kd.R_new' ho0 (Kd.R_lt (by (with_reducible repeat (first | apply Kd.R_alloc | apply Kd.R_drewN | apply Kd.R_drew)); exact HO389.out))) (below_size (by repeat (first | (with_reducible first | exact HB.out | apply below_alloc | apply pw_below_drewN | apply below_drew1) | exact HB.out)))); have n2_ := Aside0.mk (below_step (by repeat (first | (with_reducible first | exact HB.out | apply below_alloc | apply pw_below_drewN | apply below_drew1) | exact HB.out)) hb); clear HO389; clear HB; have HO389 := n0_; have HO393 := n1_; have HB := n2_; clear n0_ n1_ n2_; (try clear hb); (try clear hb2); (try clear hk); (try clear hi); (try clear ho0)) | ((with_reducible refine gate_callee (f := 13) rfl ?_); refine goesL_ (some 42) rfl rfl Try.func13 (by kernel_rfl) rfl #[.string (a0 ++ a1)] rfl (by (try simp only [List.map_toArray, List.map_cons, List.map_nil]); first | done | rfl | (simp only [List.length_drop, List.length_take]; rfl)) ?_; (with_reducible refine (nd_Options.calls kj4 (a0 ++ a1) t394 t395 _ A12.out).mono ?_); rintro e w80 ⟨v396, rfl, ho0, hb⟩; refine ⟨_, rfl, ?_⟩; have n0_ := Aside0.mk (Kd.R_elder' (by (with_reducible repeat (first | apply Kd.R_alloc | apply Kd.R_drewN | apply Kd.R_drew)); exact HO389.out) (Kd.R_base ho0) hb); have n1_ := Aside0.mk (Kd.R_elder' (by (with_reducible repeat (first | apply Kd.R_alloc | apply Kd.R_drewN | apply Kd.R_drew)); exact HO393.out) (Kd.R_base ho0) hb); have n2_ := Aside0.mk (Kd.R_lower (Kd.R_new' (Kd.R_new' ho0 (Kd.R_lt (by (with_reducible repeat (first | apply Kd.R_alloc | apply Kd.R_drewN | apply Kd.R_drew)); exact HO389.out))) (Kd.R_lt (by (with_reducible repeat (first | apply Kd.R_alloc | apply Kd.R_drewN | apply Kd.R_drew)); exact HO393.out))) (below_size (by repeat (first | (with_reducible first | exact HB.out | apply below_alloc | apply pw_below_drewN | apply below_drew1) | exact HB.out)))); have n3_ := Aside0.mk (below_step (by repeat (first | (with_reducible first | exact HB.out | apply below_alloc | apply pw_below_drewN | apply below_drew1) | exact HB.out)) hb); clear HO389; clear HO393; clear HB; have HO389 := n0_; have HO393 := n1_; have HO397 := n2_; have HB := n3_; clear n0_ n1_ n2_ n3_; (try clear hb); (try clear hb2); (try clear hk); (try clear hi); (try clear ho0)))
       go_ret
       exact ⟨by first | rfl | (simp [errW_none, errW_some] <;> rfl) | (simp [*, errW_none, errW_some] <;> rfl), by repeat (first | (with_reducible first | exact HB.out | apply below_alloc | apply pw_below_drewN | apply below_drew1) | exact HB.out)⟩
    ·
     rw [if_neg c11] at H
     exact absurd H (by simp)

end Go.Proofs.Ytkpncagfhiceoaa.PBase
