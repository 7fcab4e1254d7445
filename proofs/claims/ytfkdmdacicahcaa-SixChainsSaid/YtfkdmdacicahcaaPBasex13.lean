/- Functions of the program as Lean functions, each with a proof that a call comes to what it says. Conditions: those of each theorem. Laid by a program of this session. -/
import Derived.Test.YtfkdmdacicahcaaPBasex0
namespace Go.Proofs.Ytfkdmdacicahcaa.PBase
open Go.RowKit Go.Proofs.Ytfkdmdacicahcaa Go.Proofs.YtfkdmdacicahcaaW.PrintWords Go.Proofs.YtfkdmdacicahcaaW.PrintLast Go.Proofs.YtfkdmdacicahcaaW.PrintMore
attribute [local go_sem] max2_int min2_int max_two min_two max_three min_three max_four min_four   -- for this text's walks alone
set_option linter.unusedVariables false
set_option linter.unusedSimpArgs false

/-! ### crosswayref07_further: function 29 -/
def crosswayref07_further.f (a0 : Int) : Option (Bool) := if a0 = 0 then (some true) else (if a0 = 43 then (some true) else (if a0 = 60 then (some true) else (some (a0 == 44))))
set_option maxHeartbeats 8000000 in
set_option maxRecDepth 100000 in
theorem crosswayref07_further.calls (a0 : Int) (r : Bool) (w : World) (h : crosswayref07_further.f a0 = some r) :
  Calls Try.prog 29 #[.int .i64 a0] w fun e w' => e = .returned (.bool r) ∧ Drawn0 w w' := by
 have H : (if a0 = 0 then (some true) else (if a0 = 43 then (some true) else (if a0 = 60 then (some true) else (some (a0 == 44))))) = some r := h
 clear h
 by_cases c2 : a0 = 0
 ·
  rw [if_pos c2] at H
  have c2b0 : (a0 == 0) = true := beq_iff_eq.mpr c2
  have c2b1 : (a0 != 0) = false := bne_eq_false_iff_eq.mpr c2
  clear c2
  obtain rfl := Option.some.inj H
  go_enter Try.func29, Try.ntmps29
  go_wp2
  go_ret
  exact ⟨by first | rfl | (simp; done) | (simp [*]; done), by repeat (first | exact Drawn0.refl _ | apply Drawn0.step)⟩
 ·
  rw [if_neg c2] at H
  have c2b0 : (a0 == 0) = false := beq_eq_false_iff_ne.mpr c2
  have c2b1 : (a0 != 0) = true := bne_iff_ne.mpr c2
  by_cases c3 : a0 = 43
  ·
   rw [if_pos c3] at H
   have c3b0 : (a0 == 43) = true := beq_iff_eq.mpr c3
   have c3b1 : (a0 != 43) = false := bne_eq_false_iff_eq.mpr c3
   clear c3
   obtain rfl := Option.some.inj H
   go_enter Try.func29, Try.ntmps29
   go_wp2
   go_ret
   exact ⟨by first | rfl | (simp; done) | (simp [*]; done), by repeat (first | exact Drawn0.refl _ | apply Drawn0.step)⟩
  ·
   rw [if_neg c3] at H
   have c3b0 : (a0 == 43) = false := beq_eq_false_iff_ne.mpr c3
   have c3b1 : (a0 != 43) = true := bne_iff_ne.mpr c3
   by_cases c4 : a0 = 60
   ·
    rw [if_pos c4] at H
    have c4b0 : (a0 == 60) = true := beq_iff_eq.mpr c4
    have c4b1 : (a0 != 60) = false := bne_eq_false_iff_eq.mpr c4
    clear c4
    obtain rfl := Option.some.inj H
    go_enter Try.func29, Try.ntmps29
    go_wp2
    go_ret
    exact ⟨by first | rfl | (simp; done) | (simp [*]; done), by repeat (first | exact Drawn0.refl _ | apply Drawn0.step)⟩
   ·
    rw [if_neg c4] at H
    have c4b0 : (a0 == 60) = false := beq_eq_false_iff_ne.mpr c4
    have c4b1 : (a0 != 60) = true := bne_iff_ne.mpr c4
    obtain rfl := Option.some.inj H
    go_enter Try.func29, Try.ntmps29
    go_wp2
    go_ret
    exact ⟨by first | rfl | (simp; done) | (simp [*]; done), by repeat (first | exact Drawn0.refl _ | apply Drawn0.step)⟩

/-! ### crosswayref07_Chain: function 17 -/
mutual
def crosswayref07_Chain.l0 : Nat → Int → ByteArray → List (S41) → Int → Option ((List (S41)) × Int × Int × Int)
 | 0, _, _, _, _ => none
 | k + 1, x0, x1, x8, x9 => (crosswayref07_further.f x0).bind fun t258 => (if t258 = true then (if x0 = 0 then (if (x8.length : Int) > 0 then (crosswayref07_Chain.j1 k x0 x1 x8 x9 true) else (crosswayref07_Chain.j1 k x0 x1 x8 x9 (decide ((x8.length : Int) ≥ 16)))) else (crosswayref07_Chain.j1 k x0 x1 x8 x9 (decide ((x8.length : Int) ≥ 16)))) else (some (x8, x0, x9, 0)))
def crosswayref07_Chain.j1 : Nat → Int → ByteArray → List (S41) → Int → Bool → Option ((List (S41)) × Int × Int × Int)
 | 0, _, _, _, _, _ => none
 | k + 1, x0, x1, x8, x9, x25 => if x25 = true then (some (([] : List (S41)), 0, 0, 64)) else (if (wrap64 ((x1.size : Int) - x9)) < 8 then (some (([] : List (S41)), 0, 0, 61)) else (if x0 = 44 then (if x8.length < 5864062014805 then (if 0 ≤ x9 then (if x9 < (x1.size : Int) then (crosswayref07_Chain.l0 k (wrap64 (bt x1 x9)) x1 (x8 ++ [(⟨x0, x9, 8⟩ : S41)]) (wrap64 (x9 + 8))) else (none)) else (none)) else (none)) else (if 0 ≤ (wrap64 (x9 + 1)) then (if (wrap64 (x9 + 1)) < (x1.size : Int) then (if (wrap64 ((x1.size : Int) - x9)) < (wrap64 (8 * (wrap64 ((wrap64 (bt x1 (wrap64 (x9 + 1)))) + 1)))) then (some (([] : List (S41)), 0, 0, 61)) else (if x8.length < 5864062014805 then (if 0 ≤ x9 then (if x9 < (x1.size : Int) then (crosswayref07_Chain.l0 k (wrap64 (bt x1 x9)) x1 (x8 ++ [(⟨x0, x9, wrap64 (8 * (wrap64 ((wrap64 (bt x1 (wrap64 (x9 + 1)))) + 1)))⟩ : S41)]) (wrap64 (x9 + (wrap64 (8 * (wrap64 ((wrap64 (bt x1 (wrap64 (x9 + 1)))) + 1))))))) else (none)) else (none)) else (none))) else (none)) else (none))))
end
def crosswayref07_Chain.f (k : Nat) (a0 : Int) (a1 : ByteArray) : Option ((List (S41)) × Int × Int × Int) := crosswayref07_Chain.l0 k a0 a1 ([] : List (S41)) 0
theorem crosswayref07_Chain.mono_l : ∀ k, (∀ y0 y1 y2 y3, LeO (crosswayref07_Chain.l0 k y0 y1 y2 y3) (crosswayref07_Chain.l0 (k + 1) y0 y1 y2 y3)) ∧ (∀ y0 y1 y2 y3 y4, LeO (crosswayref07_Chain.j1 k y0 y1 y2 y3 y4) (crosswayref07_Chain.j1 (k + 1) y0 y1 y2 y3 y4))
 | 0 => ⟨fun _ _ _ _ r h => by simp [crosswayref07_Chain.l0] at h, fun _ _ _ _ _ r h => by simp [crosswayref07_Chain.j1] at h⟩
 | k + 1 => by
  obtain ⟨ih0, ih1⟩ := crosswayref07_Chain.mono_l k
  refine ⟨?_, ?_⟩
  ·
   intro y0 y1 y2 y3
   unfold crosswayref07_Chain.l0
   repeat' first
   | (with_reducible exact ih0 _ _ _ _)
   | (with_reducible exact ih1 _ _ _ _ _)
   | (with_reducible exact LeO.refl _)
   | (with_reducible exact LeO.none _)
   | (with_reducible refine LeO.ite ?_ ?_)
   | (with_reducible refine LeO.bind ?_ (fun _ => ?_))
   | exact ih0 _ _ _ _
   | exact ih1 _ _ _ _ _
   | exact LeO.none _
   | refine LeO.ite ?_ ?_
   | refine LeO.bind ?_ (fun _ => ?_)
  ·
   intro y0 y1 y2 y3 y4
   unfold crosswayref07_Chain.j1
   repeat' first
   | (with_reducible exact ih0 _ _ _ _)
   | (with_reducible exact ih1 _ _ _ _ _)
   | (with_reducible exact LeO.refl _)
   | (with_reducible exact LeO.none _)
   | (with_reducible refine LeO.ite ?_ ?_)
   | (with_reducible refine LeO.bind ?_ (fun _ => ?_))
   | exact ih0 _ _ _ _
   | exact ih1 _ _ _ _ _
   | exact LeO.none _
   | refine LeO.ite ?_ ?_
   | refine LeO.bind ?_ (fun _ => ?_)
theorem crosswayref07_Chain.mono : ∀ a0 a1 k, LeO (crosswayref07_Chain.f k a0 a1) (crosswayref07_Chain.f (k + 1) a0 a1) := by
 intro a0 a1 k
 obtain ⟨ih0, ih1⟩ := crosswayref07_Chain.mono_l k
 unfold crosswayref07_Chain.f
 repeat' first
   | (with_reducible exact ih0 _ _ _ _)
   | (with_reducible exact ih1 _ _ _ _ _)
   | (with_reducible exact LeO.refl _)
   | (with_reducible exact LeO.none _)
   | (with_reducible refine LeO.ite ?_ ?_)
   | (with_reducible refine LeO.bind ?_ (fun _ => ?_))
   | exact ih0 _ _ _ _
   | exact ih1 _ _ _ _ _
   | exact LeO.none _
   | refine LeO.ite ?_ ?_
   | refine LeO.bind ?_ (fun _ => ?_)
set_option maxHeartbeats 8000000 in
set_option maxRecDepth 100000 in
theorem crosswayref07_Chain.calls (k : Nat) (a0 : Int) (a1 : ByteArray) (r1 : List (S41)) (r2 : Int) (r3 : Int) (r4 : Int) (w : World) (h : crosswayref07_Chain.f k a0 a1 = some (r1, r2, r3, r4)) :
  Calls Try.prog 17 #[.int .i64 a0, .string a1] w fun e w' => ∃ v0_ : Value, e = .returned (.tuple #[v0_, .int .i64 r2, .int .i64 r3, .int .i64 r4]) ∧ Kd.R k41 41 w' w.heap.size (fun _ => True) v0_ r1 ∧ Below w.heap.size w w' := by
 have hu41 := Try.underlying41
 have HB := Aside0.mk (Below.refl w.heap.size w)
 have H : (crosswayref07_Chain.l0 k a0 a1 ([] : List (S41)) 0) = some (r1, r2, r3, r4) := h
 clear h
 have H' := Aside0.mk H
 clear H
 go_enter Try.func17, Try.ntmps17
 go_wp2
 go_loopg [0, 8, 9] k (fun kq v0 v8 v9 w' => ∃ (x0_1 : Int) (x8_1 : List (S41)) (x9_1 : Int), v0 = .int .i64 x0_1 ∧ v9 = .int .i64 x9_1 ∧ Aside0 (crosswayref07_Chain.l0 kq x0_1 a1 x8_1 x9_1 = some (r1, r2, r3, r4)) ∧ Aside0 (kq ≤ k) ∧ Aside0 (Kd.R k41 41 w' w.heap.size (fun _ => True) v8 x8_1) ∧ Aside0 (Below w.heap.size w w'))
 case atStart => exact ⟨(a0), (([] : List (S41))), (0), (by first | rfl | (simp; done) | (simp [*]; done)), (by first | rfl | (simp; done) | (simp [*]; done)), H', ⟨Nat.le_refl _⟩, ⟨by first | exact Kd.R_nil _ _ _ _ _ | exact Kd.N_nil _ _ _ _ _ | exact Kd.V_nil _ _ _ _ _ | exact Kd.Q_nil _ _ _ _ _ | exact Kd.S_nil _ _ _ _ _⟩, ⟨by repeat (first | (with_reducible first | exact HB.out | apply below_alloc | apply pw_below_drewN | apply below_drew1) | exact HB.out)⟩⟩
 case round =>
  clear H'
  try clear c1
  try clear p2
  obtain ⟨x0_1, x8_1, x9_1, rfl, rfl, HA, HK1, HO_8, HB⟩ := hrel
  cases gk with
  | zero => exact absurd HA.out (by simp [crosswayref07_Chain.l0])
  | succ k1 =>
   have H := HA.out
   clear HA
   simp only [crosswayref07_Chain.l0] at H
   replace H := Option.bind_eq_some_iff.mp H
   obtain ⟨t258, A30, H⟩ := H
   replace H : (if t258 = true then (if x0_1 = 0 then (if (x8_1.length : Int) > 0 then (crosswayref07_Chain.j1 k1 x0_1 a1 x8_1 x9_1 true) else (crosswayref07_Chain.j1 k1 x0_1 a1 x8_1 x9_1 (decide ((x8_1.length : Int) ≥ 16)))) else (crosswayref07_Chain.j1 k1 x0_1 a1 x8_1 x9_1 (decide ((x8_1.length : Int) ≥ 16)))) else (some (x8_1, x0_1, x9_1, 0))) = some (r1, r2, r3, r4) := H
   have A3 := Aside0.mk A30
   clear A30
   by_cases c4 : t258 = true
   ·
    subst c4
    have H1 : (if x0_1 = 0 then (if (x8_1.length : Int) > 0 then (crosswayref07_Chain.j1 k1 x0_1 a1 x8_1 x9_1 true) else (crosswayref07_Chain.j1 k1 x0_1 a1 x8_1 x9_1 (decide ((x8_1.length : Int) ≥ 16)))) else (crosswayref07_Chain.j1 k1 x0_1 a1 x8_1 x9_1 (decide ((x8_1.length : Int) ≥ 16)))) = some (r1, r2, r3, r4) := by rw [if_pos rfl] at H; exact H
    clear H
    have H := H1
    clear H1
    have HC5 := Aside0.mk H
    clear H
    go_upto_region 4 with (first | ((with_reducible refine gate_callee (f := 29) rfl ?_); refine goesL_ (some 13) rfl rfl Try.func29 (by kernel_rfl) rfl #[.int .i64 x0_1] rfl (by (try simp only [List.map_toArray, List.map_cons, List.map_nil]); first | done | rfl | (simp only [List.length_drop, List.length_take]; rfl)) ?_; (with_reducible refine (crosswayref07_further.calls x0_1 true _ A3.out).mono ?_); rintro e w' ⟨rfl, ⟨nd, rfl⟩⟩; refine ⟨_, rfl, ?_⟩))
    (try simp only [Act.put, List.setIfInBounds_toArray, List.set_cons_zero, List.set_cons_succ])
    go_cut [25] (fun v25 wc => ∃ (kq : Nat) (x25_4 : Bool), v25 = .bool x25_4 ∧ Aside0 (crosswayref07_Chain.j1 kq x0_1 a1 x8_1 x9_1 x25_4 = some (r1, r2, r3, r4)) ∧ Aside0 (kq ≤ k1) ∧ Aside0 (Kd.R k41 41 wc w.heap.size (fun _ => True) u8 x8_1) ∧ Aside0 (Below w.heap.size w wc))
    case first =>
     have H := HC5.out
     clear HC5
     by_cases c6 : x0_1 = 0
     ·
      rw [if_pos c6] at H
      have c6b0 : (x0_1 == 0) = true := beq_iff_eq.mpr c6
      have c6b1 : (x0_1 != 0) = false := bne_eq_false_iff_eq.mpr c6
      clear c6
      (first | rw [c6b0] | (simp only [i64_w, i32_w]; rw [c6b0]) | skip)
      by_cases c7 : (x8_1.length : Int) > 0
      ·
       rw [if_pos c7] at H
       have c7b0 : decide (0 < (x8_1.length : Int)) = true := decide_eq_true c7
       have c7b1 : decide (0 < x8_1.length) = true := decide_eq_true (by omega)
       clear c7
       have H' := Aside0.mk H
       clear H
       obtain ⟨Ao8, co8, eo8⟩ := Kd.R_slice HO_8.out
       subst eo8
       go_wp2
       go_meet
       case rel => exact ⟨_, (true), (by first | rfl | (simp; done) | (simp [*]; done)), H', ⟨by have := HK1.out; first | omega | exact Nat.le_refl _⟩, ⟨by (with_reducible repeat (first | apply Kd.R_alloc | apply Kd.R_drewN | apply Kd.R_drew)); exact HO_8.out⟩, ⟨by repeat (first | (with_reducible first | exact HB.out | apply below_alloc | apply pw_below_drewN | apply below_drew1) | exact HB.out)⟩⟩
      ·
       rw [if_neg c7] at H
       have c7b0 : decide (0 < (x8_1.length : Int)) = false := decide_eq_false c7
       have c7b1 : decide (0 < x8_1.length) = false := decide_eq_false (by omega)
       clear c7
       have H' := Aside0.mk H
       clear H
       obtain ⟨Ao9, co9, eo9⟩ := Kd.R_slice HO_8.out
       subst eo9
       go_wp2
       go_meet
       case rel => exact ⟨_, (decide ((x8_1.length : Int) ≥ 16)), (by first | rfl | (simp; done) | (simp [*]; done)), H', ⟨by have := HK1.out; first | omega | exact Nat.le_refl _⟩, ⟨by (with_reducible repeat (first | apply Kd.R_alloc | apply Kd.R_drewN | apply Kd.R_drew)); exact HO_8.out⟩, ⟨by repeat (first | (with_reducible first | exact HB.out | apply below_alloc | apply pw_below_drewN | apply below_drew1) | exact HB.out)⟩⟩
     ·
      rw [if_neg c6] at H
      have c6b0 : (x0_1 == 0) = false := beq_eq_false_iff_ne.mpr c6
      have c6b1 : (x0_1 != 0) = true := bne_iff_ne.mpr c6
      (first | rw [c6b0] | (simp only [i64_w, i32_w]; rw [c6b0]) | skip)
      have H' := Aside0.mk H
      clear H
      obtain ⟨Ao10, co10, eo10⟩ := Kd.R_slice HO_8.out
      subst eo10
      go_wp2
      go_meet
      case rel => exact ⟨_, (decide ((x8_1.length : Int) ≥ 16)), (by first | rfl | (simp; done) | (simp [*]; done)), H', ⟨by have := HK1.out; first | omega | exact Nat.le_refl _⟩, ⟨by (with_reducible repeat (first | apply Kd.R_alloc | apply Kd.R_drewN | apply Kd.R_drew)); exact HO_8.out⟩, ⟨by repeat (first | (with_reducible first | exact HB.out | apply below_alloc | apply pw_below_drewN | apply below_drew1) | exact HB.out)⟩⟩
    case rest =>
     clear HC5
     try clear c1
     try clear c2
     try clear p2
     try clear c4
     try clear c6
     try clear c6b0
     try clear c6b1
     try clear c7
     try clear c7b0
     try clear c7b1
     try clear p2
     obtain ⟨kq, x25_4, rfl, HA, HJ4, HO_8, HB⟩ := hcut
     cases kq with
     | zero => exact absurd HA.out (by simp [crosswayref07_Chain.j1])
     | succ kj4 =>
      have H := HA.out
      clear HA
      simp only [crosswayref07_Chain.j1] at H
      by_cases c11 : x25_4 = true
      ·
       subst c11
       have H1 : (some (([] : List (S41)), 0, 0, 64)) = some (r1, r2, r3, r4) := by rw [if_pos rfl] at H; exact H
       clear H
       have H := H1
       clear H1
       simp only [Option.some.injEq, Prod.mk.injEq] at H
       obtain ⟨rfl, rfl, rfl, rfl⟩ := H
       go_wp2
       refine bodyPost_ret (results_list (rs := [.tmp 4, .tmp 5, .tmp 6, .tmp 7]) rfl (by simp) (.tmp (.tmp (.tmp (.tmp .nil))))) rfl ?_
       exact ⟨_, by first | rfl | (simp [errW_none, errW_some] <;> rfl) | (simp [*, errW_none, errW_some] <;> rfl), by first | exact Kd.R_nil _ _ _ _ _ | exact Kd.N_nil _ _ _ _ _ | exact Kd.V_nil _ _ _ _ _ | exact Kd.Q_nil _ _ _ _ _ | exact Kd.S_nil _ _ _ _ _, by repeat (first | (with_reducible first | exact HB.out | apply below_alloc | apply pw_below_drewN | apply below_drew1) | exact HB.out)⟩
      ·
       replace c11 := Bool.eq_false_iff.mpr c11
       subst c11
       have H1 : (if (wrap64 ((a1.size : Int) - x9_1)) < 8 then (some (([] : List (S41)), 0, 0, 61)) else (if x0_1 = 44 then (if x8_1.length < 5864062014805 then (if 0 ≤ x9_1 then (if x9_1 < (a1.size : Int) then (crosswayref07_Chain.l0 kj4 (wrap64 (bt a1 x9_1)) a1 (x8_1 ++ [(⟨x0_1, x9_1, 8⟩ : S41)]) (wrap64 (x9_1 + 8))) else (none)) else (none)) else (none)) else (if 0 ≤ (wrap64 (x9_1 + 1)) then (if (wrap64 (x9_1 + 1)) < (a1.size : Int) then (if (wrap64 ((a1.size : Int) - x9_1)) < (wrap64 (8 * (wrap64 ((wrap64 (bt a1 (wrap64 (x9_1 + 1)))) + 1)))) then (some (([] : List (S41)), 0, 0, 61)) else (if x8_1.length < 5864062014805 then (if 0 ≤ x9_1 then (if x9_1 < (a1.size : Int) then (crosswayref07_Chain.l0 kj4 (wrap64 (bt a1 x9_1)) a1 (x8_1 ++ [(⟨x0_1, x9_1, wrap64 (8 * (wrap64 ((wrap64 (bt a1 (wrap64 (x9_1 + 1)))) + 1)))⟩ : S41)]) (wrap64 (x9_1 + (wrap64 (8 * (wrap64 ((wrap64 (bt a1 (wrap64 (x9_1 + 1)))) + 1))))))) else (none)) else (none)) else (none))) else (none)) else (none)))) = some (r1, r2, r3, r4) := by rw [if_neg (show ¬ (false = true) by decide)] at H; exact H
       clear H
       have H := H1
       clear H1
       by_cases c12 : (wrap64 ((a1.size : Int) - x9_1)) < 8
       ·
        rw [if_pos c12] at H
        have c12b0 : decide ((wrap64 ((a1.size : Int) - x9_1)) < 8) = true := decide_eq_true c12
        clear c12
        simp only [Option.some.injEq, Prod.mk.injEq] at H
        obtain ⟨rfl, rfl, rfl, rfl⟩ := H
        go_wp2
        refine bodyPost_ret (results_list (rs := [.tmp 4, .tmp 5, .tmp 6, .tmp 7]) rfl (by simp) (.tmp (.tmp (.tmp (.tmp .nil))))) rfl ?_
        exact ⟨_, by first | rfl | (simp [errW_none, errW_some] <;> rfl) | (simp [*, errW_none, errW_some] <;> rfl), by first | exact Kd.R_nil _ _ _ _ _ | exact Kd.N_nil _ _ _ _ _ | exact Kd.V_nil _ _ _ _ _ | exact Kd.Q_nil _ _ _ _ _ | exact Kd.S_nil _ _ _ _ _, by repeat (first | (with_reducible first | exact HB.out | apply below_alloc | apply pw_below_drewN | apply below_drew1) | exact HB.out)⟩
       ·
        rw [if_neg c12] at H
        have c12b0 : decide ((wrap64 ((a1.size : Int) - x9_1)) < 8) = false := decide_eq_false c12
        clear c12
        by_cases c13 : x0_1 = 44
        ·
         rw [if_pos c13] at H
         have c13b0 : (x0_1 == 44) = true := beq_iff_eq.mpr c13
         have c13b1 : (x0_1 != 44) = false := bne_eq_false_iff_eq.mpr c13
         clear c13
         by_cases c14 : x8_1.length < 5864062014805
         ·
          rw [if_pos c14] at H
          have LMc14 := Aside0.mk c14
          clear c14
          obtain ⟨y259, hy259⟩ : ∃ y_ : List (S41), y_ = (x8_1 ++ [(⟨x0_1, x9_1, 8⟩ : S41)]) := ⟨_, rfl⟩
          replace H : (if 0 ≤ x9_1 then (if x9_1 < (a1.size : Int) then (crosswayref07_Chain.l0 kj4 (wrap64 (bt a1 x9_1)) a1 y259 (wrap64 (x9_1 + 8))) else (none)) else (none)) = some (r1, r2, r3, r4) := by first | (rw [hy259]; with_reducible exact H) | (have H2_ := (Option.bind_some _ _).symm.trans H; rw [hy259]; with_reducible exact H2_) | (have H2_ := (Option.bind_some _ _).symm.trans H; with_reducible exact H2_) | with_reducible exact H | (rw [hy259]; exact H) | exact H
          have Ny259 := Aside0.mk hy259
          clear hy259
          by_cases c15 : 0 ≤ x9_1
          ·
           rw [if_pos c15] at H
           have c15b0 : decide (0 ≤ x9_1) = true := decide_eq_true c15
           clear c15
           by_cases c16 : x9_1 < (a1.size : Int)
           ·
            rw [if_pos c16] at H
            have c16b0 : decide (x9_1 < (a1.size : Int)) = true := decide_eq_true c16
            clear c16
            have H' := Aside0.mk H
            clear H
            go_wp2_with (first | ((with_reducible refine gate_builtin (b := .append) (xs := #[.tmp 44, .tmp 49]) rfl ?_); (try (refine gate_guard (by rfl) ?_; dsimp only)); at_builtin; refine Kd.R_append k41 (w0 := w) w.heap.size rfl (.tmp 44) (.tmp 49) 36 41 (.agg #[(.int .i64 0), (.int .i64 0), (.int .i64 0)]) 24 rfl Try.underlying36 info41 rfl (by decide) (by omega) u8 x8_1 (⟨x0_1, x9_1, 8⟩ : S41) [.int .i64 x0_1, .int .i64 x9_1, .int .i64 8] (fun _ => True) (fun _ => False) rfl rfl ?aP (fun _ hk => hk.elim) ?aF ?aO ?aB ?aS ?aL ?_; (case aP => exact k41_mkM _ _ _ (⟨x0_1, x9_1, 8⟩ : S41)); (case aB => exact (by repeat (first | (with_reducible first | exact HB.out | apply below_alloc | apply pw_below_drewN | apply below_drew1) | exact HB.out))); (case aF => exact (fun _ _ => trivial)); (case aO => exact (by (with_reducible repeat (first | apply Kd.R_alloc | apply Kd.R_drewN | apply Kd.R_drew)); exact HO_8.out)); (case aS => exact (below_size (by repeat (first | (with_reducible first | exact HB.out | apply below_alloc | apply pw_below_drewN | apply below_drew1) | exact HB.out)))); (case aL => have := LMc14.out; omega); intro v260 w18 ho hb hg hat; rw [← Ny259.out] at ho; have n0_ := Aside0.mk (hb); have n1_ := Aside0.mk (ho); clear HB; clear HO_8; have HB := n0_; have HO261 := n1_; clear n0_ n1_; clear ho hb hg hat; have p17 : 0 ≤ (x9_1 : Int) := of_decide_eq_true (by first | (with_reducible assumption) | assumption); have q17 : x9_1 < (a1.size : Int) := of_decide_eq_true (by first | (with_reducible assumption) | assumption); have hx17 := bt_at a1 x9_1; replace p17 := eq_true p17; replace q17 := eq_true q17))
            go_roundg kj4
            case measure => have := HK1.out; have := HJ4.out; omega
            case rel => exact ⟨(wrap64 (bt a1 x9_1)), (y259), (wrap64 (x9_1 + 8)), (by first | rfl | (simp; done) | (simp [*]; done)), (by first | rfl | (simp; done) | (simp [*]; done)), H', ⟨by have := HK1.out; have := HJ4.out; omega⟩, ⟨by (with_reducible repeat (first | apply Kd.R_alloc | apply Kd.R_drewN | apply Kd.R_drew)); exact HO261.out⟩, ⟨by repeat (first | (with_reducible first | exact HB.out | apply below_alloc | apply pw_below_drewN | apply below_drew1) | exact HB.out)⟩⟩
           ·
            rw [if_neg c16] at H
            exact absurd H (by simp)
          ·
           rw [if_neg c15] at H
           exact absurd H (by simp)
         ·
          rw [if_neg c14] at H
          exact absurd H (by simp)
        ·
         rw [if_neg c13] at H
         have c13b0 : (x0_1 == 44) = false := beq_eq_false_iff_ne.mpr c13
         have c13b1 : (x0_1 != 44) = true := bne_iff_ne.mpr c13
         obtain ⟨ji19, hji19⟩ : ∃ j_ : Int, (wrap64 (x9_1 + 1)) = j_ := ⟨_, rfl⟩
         replace H : (if 0 ≤ (ji19) then (if (ji19) < (a1.size : Int) then (if (wrap64 ((a1.size : Int) - x9_1)) < (wrap64 (8 * (wrap64 ((wrap64 (bt a1 (ji19))) + 1)))) then (some (([] : List (S41)), 0, 0, 61)) else (if x8_1.length < 5864062014805 then (if 0 ≤ x9_1 then (if x9_1 < (a1.size : Int) then (crosswayref07_Chain.l0 kj4 (wrap64 (bt a1 x9_1)) a1 (x8_1 ++ [(⟨x0_1, x9_1, wrap64 (8 * (wrap64 ((wrap64 (bt a1 (ji19))) + 1)))⟩ : S41)]) (wrap64 (x9_1 + (wrap64 (8 * (wrap64 ((wrap64 (bt a1 (ji19))) + 1))))))) else (none)) else (none)) else (none))) else (none)) else (none)) = some (r1, r2, r3, r4) := by first | (rw [hji19] at H; exact H) | (simp only [hji19] at H ⊢; exact H)
         have hji19w : (IntKind.i64.wrap (x9_1 + 1)) = ji19 := (i64_w _).trans hji19
         by_cases c20 : 0 ≤ (ji19)
         ·
          rw [if_pos c20] at H
          have c20b0 : decide (0 ≤ (ji19)) = true := decide_eq_true c20
          clear c20
          by_cases c21 : (ji19) < (a1.size : Int)
          ·
           rw [if_pos c21] at H
           have c21b0 : decide ((ji19) < (a1.size : Int)) = true := decide_eq_true c21
           clear c21
           by_cases c23 : (wrap64 ((a1.size : Int) - x9_1)) < (wrap64 (8 * (wrap64 ((wrap64 (bt a1 (ji19))) + 1))))
           ·
            rw [if_pos c23] at H
            have c23b0 : decide ((wrap64 ((a1.size : Int) - x9_1)) < (wrap64 (8 * (wrap64 ((wrap64 (bt a1 (ji19))) + 1))))) = true := decide_eq_true c23
            clear c23
            simp only [Option.some.injEq, Prod.mk.injEq] at H
            obtain ⟨rfl, rfl, rfl, rfl⟩ := H
            have p22 : 0 ≤ ((ji19) : Int) := of_decide_eq_true (by first | (with_reducible assumption) | assumption)
            have q22 : (ji19) < (a1.size : Int) := of_decide_eq_true (by first | (with_reducible assumption) | assumption)
            have hx22 := bt_at a1 (ji19)
            replace p22 := eq_true p22
            replace q22 := eq_true q22
            go_wp2
            refine bodyPost_ret (results_list (rs := [.tmp 4, .tmp 5, .tmp 6, .tmp 7]) rfl (by simp) (.tmp (.tmp (.tmp (.tmp .nil))))) rfl ?_
            exact ⟨_, by first | rfl | (simp [errW_none, errW_some] <;> rfl) | (simp only [← hji19]; first | rfl | (simp [errW_none, errW_some] <;> rfl)) | (simp [*, errW_none, errW_some] <;> rfl), by first | exact Kd.R_nil _ _ _ _ _ | exact Kd.N_nil _ _ _ _ _ | exact Kd.V_nil _ _ _ _ _ | exact Kd.Q_nil _ _ _ _ _ | exact Kd.S_nil _ _ _ _ _, by repeat (first | (with_reducible first | exact HB.out | apply below_alloc | apply pw_below_drewN | apply below_drew1) | exact HB.out)⟩
           ·
            rw [if_neg c23] at H
            have c23b0 : decide ((wrap64 ((a1.size : Int) - x9_1)) < (wrap64 (8 * (wrap64 ((wrap64 (bt a1 (ji19))) + 1))))) = false := decide_eq_false c23
            clear c23
            by_cases c24 : x8_1.length < 5864062014805
            ·
             rw [if_pos c24] at H
             have LMc24 := Aside0.mk c24
             clear c24
             obtain ⟨y262, hy262⟩ : ∃ y_ : List (S41), y_ = (x8_1 ++ [(⟨x0_1, x9_1, wrap64 (8 * (wrap64 ((wrap64 (bt a1 (ji19))) + 1)))⟩ : S41)]) := ⟨_, rfl⟩
             replace H : (if 0 ≤ x9_1 then (if x9_1 < (a1.size : Int) then (crosswayref07_Chain.l0 kj4 (wrap64 (bt a1 x9_1)) a1 y262 (wrap64 (x9_1 + (wrap64 (8 * (wrap64 ((wrap64 (bt a1 (ji19))) + 1))))))) else (none)) else (none)) = some (r1, r2, r3, r4) := by first | (rw [hy262]; with_reducible exact H) | (have H2_ := (Option.bind_some _ _).symm.trans H; rw [hy262]; with_reducible exact H2_) | (have H2_ := (Option.bind_some _ _).symm.trans H; with_reducible exact H2_) | with_reducible exact H | (rw [hy262]; exact H) | exact H
             have Ny262 := Aside0.mk hy262
             clear hy262
             by_cases c25 : 0 ≤ x9_1
             ·
              rw [if_pos c25] at H
              have c25b0 : decide (0 ≤ x9_1) = true := decide_eq_true c25
              clear c25
              by_cases c26 : x9_1 < (a1.size : Int)
              ·
               rw [if_pos c26] at H
               have c26b0 : decide (x9_1 < (a1.size : Int)) = true := decide_eq_true c26
               clear c26
               have H' := Aside0.mk H
               clear H
               have p22 : 0 ≤ ((ji19) : Int) := of_decide_eq_true (by first | (with_reducible assumption) | assumption)
               have q22 : (ji19) < (a1.size : Int) := of_decide_eq_true (by first | (with_reducible assumption) | assumption)
               have hx22 := bt_at a1 (ji19)
               replace p22 := eq_true p22
               replace q22 := eq_true q22
               go_wp2_with (first | ((with_reducible refine gate_builtin (b := .append) (xs := #[.tmp 44, .tmp 49]) rfl ?_); (try (refine gate_guard (by rfl) ?_; dsimp only)); at_builtin; refine Kd.R_append k41 (w0 := w) w.heap.size rfl (.tmp 44) (.tmp 49) 36 41 (.agg #[(.int .i64 0), (.int .i64 0), (.int .i64 0)]) 24 rfl Try.underlying36 info41 rfl (by decide) (by omega) u8 x8_1 (⟨x0_1, x9_1, wrap64 (8 * (wrap64 ((wrap64 (bt a1 (ji19))) + 1)))⟩ : S41) [.int .i64 x0_1, .int .i64 x9_1, .int .i64 (wrap64 (8 * (wrap64 ((wrap64 (bt a1 (ji19))) + 1))))] (fun _ => True) (fun _ => False) rfl rfl ?aP (fun _ hk => hk.elim) ?aF ?aO ?aB ?aS ?aL ?_; (case aP => exact k41_mkM _ _ _ (⟨x0_1, x9_1, wrap64 (8 * (wrap64 ((wrap64 (bt a1 (ji19))) + 1)))⟩ : S41)); (case aB => exact (by repeat (first | (with_reducible first | exact HB.out | apply below_alloc | apply pw_below_drewN | apply below_drew1) | exact HB.out))); (case aF => exact (fun _ _ => trivial)); (case aO => exact (by (with_reducible repeat (first | apply Kd.R_alloc | apply Kd.R_drewN | apply Kd.R_drew)); exact HO_8.out)); (case aS => exact (below_size (by repeat (first | (with_reducible first | exact HB.out | apply below_alloc | apply pw_below_drewN | apply below_drew1) | exact HB.out)))); (case aL => have := LMc24.out; omega); intro v263 w28 ho hb hg hat; rw [← Ny262.out] at ho; have n0_ := Aside0.mk (hb); have n1_ := Aside0.mk (ho); clear HB; clear HO_8; have HB := n0_; have HO264 := n1_; clear n0_ n1_; clear ho hb hg hat; have p27 : 0 ≤ (x9_1 : Int) := of_decide_eq_true (by first | (with_reducible assumption) | assumption); have q27 : x9_1 < (a1.size : Int) := of_decide_eq_true (by first | (with_reducible assumption) | assumption); have hx27 := bt_at a1 x9_1; replace p27 := eq_true p27; replace q27 := eq_true q27))
               go_roundg kj4
               case measure => have := HK1.out; have := HJ4.out; omega
               case rel => exact ⟨(wrap64 (bt a1 x9_1)), (y262), (wrap64 (x9_1 + (wrap64 (8 * (wrap64 ((wrap64 (bt a1 (ji19))) + 1)))))), (by first | rfl | (simp; done) | (simp [*]; done)), (by first | rfl | (simp; done) | (simp only [← hji19] <;> (first | rfl | simp)) | (simp [*]; done)), H', ⟨by have := HK1.out; have := HJ4.out; omega⟩, ⟨by (with_reducible repeat (first | apply Kd.R_alloc | apply Kd.R_drewN | apply Kd.R_drew)); exact HO264.out⟩, ⟨by repeat (first | (with_reducible first | exact HB.out | apply below_alloc | apply pw_below_drewN | apply below_drew1) | exact HB.out)⟩⟩
              ·
               rw [if_neg c26] at H
               exact absurd H (by simp)
             ·
              rw [if_neg c25] at H
              exact absurd H (by simp)
            ·
             rw [if_neg c24] at H
             exact absurd H (by simp)
          ·
           rw [if_neg c21] at H
           exact absurd H (by simp)
         ·
          rw [if_neg c20] at H
          exact absurd H (by simp)
   ·
    replace c4 := Bool.eq_false_iff.mpr c4
    subst c4
    have H1 : (some (x8_1, x0_1, x9_1, 0)) = some (r1, r2, r3, r4) := by rw [if_neg (show ¬ (false = true) by decide)] at H; exact H
    clear H
    have H := H1
    clear H1
    simp only [Option.some.injEq, Prod.mk.injEq] at H
    obtain ⟨rfl, rfl, rfl, rfl⟩ := H
    go_wp2_with (first | ((with_reducible refine gate_callee (f := 29) rfl ?_); refine goesL_ (some 13) rfl rfl Try.func29 (by kernel_rfl) rfl #[.int .i64 x0_1] rfl (by (try simp only [List.map_toArray, List.map_cons, List.map_nil]); first | done | rfl | (simp only [List.length_drop, List.length_take]; rfl)) ?_; (with_reducible refine (crosswayref07_further.calls x0_1 false _ A3.out).mono ?_); rintro e w' ⟨rfl, ⟨nd, rfl⟩⟩; refine ⟨_, rfl, ?_⟩))
    refine bodyPost_ret (results_list (rs := [.tmp 4, .tmp 5, .tmp 6, .tmp 7]) rfl (by simp) (.tmp (.tmp (.tmp (.tmp .nil))))) rfl ?_
    exact ⟨_, by first | rfl | (simp [errW_none, errW_some] <;> rfl) | (simp [*, errW_none, errW_some] <;> rfl), by (with_reducible repeat (first | apply Kd.R_alloc | apply Kd.R_drewN | apply Kd.R_drew)); exact HO_8.out, by repeat (first | (with_reducible first | exact HB.out | apply below_alloc | apply pw_below_drewN | apply below_drew1) | exact HB.out)⟩

/-! ### crosswayref07_Head: function 20 -/
mutual
def crosswayref07_Head.l0 : Nat → List (S41) → Int → Int → Option (Int)
 | 0, _, _, _ => none
 | k + 1, x5, x9, x10 => if x10 < (x5.length : Int) then (if 0 ≤ x10 then (crosswayref07_Head.j1 k x5 x9 x10 (((rd_T41 x5 x10).f0) != 44)) else (none)) else (crosswayref07_Head.j1 k x5 x9 x10 false)
def crosswayref07_Head.j1 : Nat → List (S41) → Int → Int → Bool → Option (Int)
 | 0, _, _, _, _ => none
 | k + 1, x5, x9, x10, x32 => if x32 = true then (if 0 ≤ x10 then (if x10 < (x5.length : Int) then (if ((rd_T41 x5 x10).f0) = 60 then (crosswayref07_Head.l0 k x5 x9 (wrap64 (x10 + 1))) else (crosswayref07_Head.l0 k x5 (wrap64 (((rd_T41 x5 x10).f1) + ((rd_T41 x5 x10).f2))) (wrap64 (x10 + 1)))) else (none)) else (none)) else (some x9)
end
def crosswayref07_Head.f (k : Nat) (a0 : Int) (a1 : ByteArray) : Option (Int) := (crosswayref07_Chain.f k a0 a1).bind fun bt265 => (if bt265.2.2.2 = 0 then (crosswayref07_Head.l0 k bt265.1 0 0) else (some 0))
theorem crosswayref07_Head.mono_l : ∀ k, (∀ y0 y1 y2, LeO (crosswayref07_Head.l0 k y0 y1 y2) (crosswayref07_Head.l0 (k + 1) y0 y1 y2)) ∧ (∀ y0 y1 y2 y3, LeO (crosswayref07_Head.j1 k y0 y1 y2 y3) (crosswayref07_Head.j1 (k + 1) y0 y1 y2 y3))
 | 0 => ⟨fun _ _ _ r h => by simp [crosswayref07_Head.l0] at h, fun _ _ _ _ r h => by simp [crosswayref07_Head.j1] at h⟩
 | k + 1 => by
  obtain ⟨ih0, ih1⟩ := crosswayref07_Head.mono_l k
  refine ⟨?_, ?_⟩
  ·
   intro y0 y1 y2
   unfold crosswayref07_Head.l0
   repeat' first
   | (with_reducible exact ih0 _ _ _)
   | (with_reducible exact ih1 _ _ _ _)
   | (with_reducible exact crosswayref07_Chain.mono _ _ _)
   | (with_reducible exact LeO.refl _)
   | (with_reducible exact LeO.none _)
   | (with_reducible refine LeO.ite ?_ ?_)
   | (with_reducible refine LeO.bind ?_ (fun _ => ?_))
   | exact ih0 _ _ _
   | exact ih1 _ _ _ _
   | exact crosswayref07_Chain.mono _ _ _
   | exact LeO.none _
   | refine LeO.ite ?_ ?_
   | refine LeO.bind ?_ (fun _ => ?_)
  ·
   intro y0 y1 y2 y3
   unfold crosswayref07_Head.j1
   repeat' first
   | (with_reducible exact ih0 _ _ _)
   | (with_reducible exact ih1 _ _ _ _)
   | (with_reducible exact crosswayref07_Chain.mono _ _ _)
   | (with_reducible exact LeO.refl _)
   | (with_reducible exact LeO.none _)
   | (with_reducible refine LeO.ite ?_ ?_)
   | (with_reducible refine LeO.bind ?_ (fun _ => ?_))
   | exact ih0 _ _ _
   | exact ih1 _ _ _ _
   | exact crosswayref07_Chain.mono _ _ _
   | exact LeO.none _
   | refine LeO.ite ?_ ?_
   | refine LeO.bind ?_ (fun _ => ?_)
theorem crosswayref07_Head.mono : ∀ a0 a1 k, LeO (crosswayref07_Head.f k a0 a1) (crosswayref07_Head.f (k + 1) a0 a1) := by
 intro a0 a1 k
 obtain ⟨ih0, ih1⟩ := crosswayref07_Head.mono_l k
 unfold crosswayref07_Head.f
 repeat' first
   | (with_reducible exact ih0 _ _ _)
   | (with_reducible exact ih1 _ _ _ _)
   | (with_reducible exact crosswayref07_Chain.mono _ _ _)
   | (with_reducible exact LeO.refl _)
   | (with_reducible exact LeO.none _)
   | (with_reducible refine LeO.ite ?_ ?_)
   | (with_reducible refine LeO.bind ?_ (fun _ => ?_))
   | exact ih0 _ _ _
   | exact ih1 _ _ _ _
   | exact crosswayref07_Chain.mono _ _ _
   | exact LeO.none _
   | refine LeO.ite ?_ ?_
   | refine LeO.bind ?_ (fun _ => ?_)
set_option maxHeartbeats 8000000 in
set_option maxRecDepth 100000 in
theorem crosswayref07_Head.calls (k : Nat) (a0 : Int) (a1 : ByteArray) (r : Int) (w : World) (h : crosswayref07_Head.f k a0 a1 = some r) :
  Calls Try.prog 20 #[.int .i64 a0, .string a1] w fun e w' => e = .returned (.int .i64 r) ∧ Below w.heap.size w w' := by
 have HB := Aside0.mk (Below.refl w.heap.size w)
 have H : ((crosswayref07_Chain.f k a0 a1).bind fun bt265 => (if bt265.2.2.2 = 0 then (crosswayref07_Head.l0 k bt265.1 0 0) else (some 0))) = some r := h
 clear h
 replace H := Option.bind_eq_some_iff.mp H
 obtain ⟨⟨t265, t266, t267, t268⟩, A30, H⟩ := H
 replace H : (if t268 = 0 then (crosswayref07_Head.l0 k t265 0 0) else (some 0)) = some r := H
 have A3 := Aside0.mk A30
 clear A30
 by_cases c4 : t268 = 0
 ·
  rw [if_pos c4] at H
  have c4b0 : (t268 == 0) = true := beq_iff_eq.mpr c4
  have c4b1 : (t268 != 0) = false := bne_eq_false_iff_eq.mpr c4
  clear c4
  have H' := Aside0.mk H
  clear H
  go_enter Try.func20, Try.ntmps20
  go_wp2_with (first | (go_at_call 17; (with_reducible refine (crosswayref07_Chain.calls k a0 a1 t265 t266 t267 t268 _ A3.out).mono ?_); rintro e w5 ⟨v269, rfl, ho0, hb⟩; have n0_ := Aside0.mk (Kd.R_lower ho0 (below_size (by repeat (first | (with_reducible first | exact HB.out | apply below_alloc | apply pw_below_drewN | apply below_drew1) | exact HB.out)))); have n1_ := Aside0.mk (below_step (by repeat (first | (with_reducible first | exact HB.out | apply below_alloc | apply pw_below_drewN | apply below_drew1) | exact HB.out)) hb); clear HB; have HO270 := n0_; have HB := n1_; clear n0_ n1_; (try clear hb); (try clear hb2); (try clear hk); (try clear hi); (try clear ho0)))
  repeat (go_quiet (first | (go_at_call 17; (with_reducible refine (crosswayref07_Chain.calls k a0 a1 t265 t266 t267 t268 _ A3.out).mono ?_); rintro e w5 ⟨v269, rfl, ho0, hb⟩; have n0_ := Aside0.mk (Kd.R_lower ho0 (below_size (by repeat (first | (with_reducible first | exact HB.out | apply below_alloc | apply pw_below_drewN | apply below_drew1) | exact HB.out)))); have n1_ := Aside0.mk (below_step (by repeat (first | (with_reducible first | exact HB.out | apply below_alloc | apply pw_below_drewN | apply below_drew1) | exact HB.out)) hb); clear HB; have HO270 := n0_; have HB := n1_; clear n0_ n1_; (try clear hb); (try clear hb2); (try clear hk); (try clear hi); (try clear ho0))); try go_wp2_with (first | (go_at_call 17; (with_reducible refine (crosswayref07_Chain.calls k a0 a1 t265 t266 t267 t268 _ A3.out).mono ?_); rintro e w5 ⟨v269, rfl, ho0, hb⟩; have n0_ := Aside0.mk (Kd.R_lower ho0 (below_size (by repeat (first | (with_reducible first | exact HB.out | apply below_alloc | apply pw_below_drewN | apply below_drew1) | exact HB.out)))); have n1_ := Aside0.mk (below_step (by repeat (first | (with_reducible first | exact HB.out | apply below_alloc | apply pw_below_drewN | apply below_drew1) | exact HB.out)) hb); clear HB; have HO270 := n0_; have HB := n1_; clear n0_ n1_; (try clear hb); (try clear hb2); (try clear hk); (try clear hi); (try clear ho0))))
  go_loopg [9, 10] k (fun kq v9 v10 w' => ∃ (x9_1 : Int) (x10_1 : Int), v9 = .int .i64 x9_1 ∧ v10 = .int .i64 x10_1 ∧ Aside0 (crosswayref07_Head.l0 kq t265 x9_1 x10_1 = some r) ∧ Aside0 (kq ≤ k) ∧ Aside0 (Kd.R k41 41 w' w.heap.size (fun _ => True) v269 t265) ∧ Aside0 (Below w.heap.size w w'))
  case atStart => exact ⟨(0), (0), (by first | rfl | (simp; done) | (simp [*]; done)), (by first | rfl | (simp; done) | (simp [*]; done)), H', ⟨Nat.le_refl _⟩, ⟨by (with_reducible repeat (first | apply Kd.R_alloc | apply Kd.R_drewN | apply Kd.R_drew)); exact HO270.out⟩, ⟨by repeat (first | (with_reducible first | exact HB.out | apply below_alloc | apply pw_below_drewN | apply below_drew1) | exact HB.out)⟩⟩
  case round =>
   clear H'
   try clear c2
   try clear p2
   try clear c4
   try clear c4b0
   try clear c4b1
   obtain ⟨x9_1, x10_1, rfl, rfl, HA, HK1, HO_5, HB⟩ := hrel
   cases gk with
   | zero => exact absurd HA.out (by simp [crosswayref07_Head.l0])
   | succ k1 =>
    have H := HA.out
    clear HA
    simp only [crosswayref07_Head.l0] at H
    have HC6 := Aside0.mk H
    clear H
    go_upto_region 6 with (fail)
    repeat (go_quiet (fail); go_upto_region 6 with (fail))
    go_cut [32] (fun v32 wc => ∃ (kq : Nat) (x32_5 : Bool), v32 = .bool x32_5 ∧ Aside0 (crosswayref07_Head.j1 kq t265 x9_1 x10_1 x32_5 = some r) ∧ Aside0 (kq ≤ k1) ∧ Aside0 (Kd.R k41 41 wc w.heap.size (fun _ => True) v269 t265) ∧ Aside0 (Below w.heap.size w wc))
    case first =>
     have H := HC6.out
     clear HC6
     by_cases c7 : x10_1 < (t265.length : Int)
     ·
      rw [if_pos c7] at H
      have c7b0 : decide (x10_1 < (t265.length : Int)) = true := decide_eq_true c7
      clear c7
      (first | rw [c7b0] | (simp only [i64_w, i32_w]; rw [c7b0]) | skip)
      by_cases c8 : 0 ≤ x10_1
      ·
       rw [if_pos c8] at H
       have c8b0 : decide (0 ≤ x10_1) = true := decide_eq_true c8
       clear c8
       have H' := Aside0.mk H
       clear H
       obtain ⟨Ao9, co9, eo9⟩ := Kd.R_slice HO_5.out
       subst eo9
       have p271 : 0 ≤ (x10_1 : Int) := of_decide_eq_true (by first | (with_reducible assumption) | assumption)
       have q271 : x10_1 < (t265.length : Int) := of_decide_eq_true (by first | (with_reducible assumption) | assumption)
       obtain ⟨ad271, e271, hx271_0, hx271_1, hx271_2⟩ := at_T41 (Kd.R_reads' HO_5.out).2.2 x10_1 p271 q271
       cases e271
       replace p271 := eq_true p271
       replace q271 := eq_true q271
       go_wp2
       repeat (go_quiet (fail); try go_wp2)
       go_meet
       case rel => exact ⟨_, ((((rd_T41 t265 x10_1).f0) != 44)), (by first | rfl | (simp; done) | (simp [*]; done)), H', ⟨by have := HK1.out; first | omega | exact Nat.le_refl _⟩, ⟨by (with_reducible repeat (first | apply Kd.R_alloc | apply Kd.R_drewN | apply Kd.R_drew)); exact HO_5.out⟩, ⟨by repeat (first | (with_reducible first | exact HB.out | apply below_alloc | apply pw_below_drewN | apply below_drew1) | exact HB.out)⟩⟩
      ·
       rw [if_neg c8] at H
       exact absurd H (by simp)
     ·
      rw [if_neg c7] at H
      have c7b0 : decide (x10_1 < (t265.length : Int)) = false := decide_eq_false c7
      clear c7
      (first | rw [c7b0] | (simp only [i64_w, i32_w]; rw [c7b0]) | skip)
      have H' := Aside0.mk H
      clear H
      obtain ⟨Ao10, co10, eo10⟩ := Kd.R_slice HO_5.out
      subst eo10
      go_wp2
      repeat (go_quiet (fail); try go_wp2)
      go_meet
      case rel => exact ⟨_, (false), (by first | rfl | (simp; done) | (simp [*]; done)), H', ⟨by have := HK1.out; first | omega | exact Nat.le_refl _⟩, ⟨by (with_reducible repeat (first | apply Kd.R_alloc | apply Kd.R_drewN | apply Kd.R_drew)); exact HO_5.out⟩, ⟨by repeat (first | (with_reducible first | exact HB.out | apply below_alloc | apply pw_below_drewN | apply below_drew1) | exact HB.out)⟩⟩
    case rest =>
     clear HC6
     try clear c2
     try clear p2
     try clear q2
     try clear hx2
     try clear c4
     try clear c4b0
     try clear c4b1
     try clear c7
     try clear c7b0
     try clear c8
     try clear c8b0
     try clear hx271_0
     try clear hx271_1
     try clear hx271_2
     try clear p2
     try clear p271
     try clear q271
     obtain ⟨kq, x32_5, rfl, HA, HJ5, HO_5, HB⟩ := hcut
     cases kq with
     | zero => exact absurd HA.out (by simp [crosswayref07_Head.j1])
     | succ kj5 =>
      have H := HA.out
      clear HA
      simp only [crosswayref07_Head.j1] at H
      by_cases c11 : x32_5 = true
      ·
       subst c11
       have H1 : (if 0 ≤ x10_1 then (if x10_1 < (t265.length : Int) then (if ((rd_T41 t265 x10_1).f0) = 60 then (crosswayref07_Head.l0 kj5 t265 x9_1 (wrap64 (x10_1 + 1))) else (crosswayref07_Head.l0 kj5 t265 (wrap64 (((rd_T41 t265 x10_1).f1) + ((rd_T41 t265 x10_1).f2))) (wrap64 (x10_1 + 1)))) else (none)) else (none)) = some r := by rw [if_pos rfl] at H; exact H
       clear H
       have H := H1
       clear H1
       by_cases c12 : 0 ≤ x10_1
       ·
        rw [if_pos c12] at H
        have c12b0 : decide (0 ≤ x10_1) = true := decide_eq_true c12
        clear c12
        by_cases c13 : x10_1 < (t265.length : Int)
        ·
         rw [if_pos c13] at H
         have c13b0 : decide (x10_1 < (t265.length : Int)) = true := decide_eq_true c13
         clear c13
         by_cases c14 : ((rd_T41 t265 x10_1).f0) = 60
         ·
          rw [if_pos c14] at H
          have c14b0 : (((rd_T41 t265 x10_1).f0) == 60) = true := beq_iff_eq.mpr c14
          have c14b1 : (((rd_T41 t265 x10_1).f0) != 60) = false := bne_eq_false_iff_eq.mpr c14
          clear c14
          have H' := Aside0.mk H
          clear H
          obtain ⟨Ao15, co15, eo15⟩ := Kd.R_slice HO_5.out
          subst eo15
          have p272 : 0 ≤ (x10_1 : Int) := of_decide_eq_true (by first | (with_reducible assumption) | assumption)
          have q272 : x10_1 < (t265.length : Int) := of_decide_eq_true (by first | (with_reducible assumption) | assumption)
          obtain ⟨ad272, e272, hx272_0, hx272_1, hx272_2⟩ := at_T41 (Kd.R_reads' HO_5.out).2.2 x10_1 p272 q272
          cases e272
          replace p272 := eq_true p272
          replace q272 := eq_true q272
          go_wp2
          repeat (go_quiet (fail); try go_wp2)
          go_roundg kj5
          case measure => have := HK1.out; have := HJ5.out; omega
          case rel => exact ⟨(x9_1), (wrap64 (x10_1 + 1)), (by first | rfl | (simp; done) | (simp [*]; done)), (by first | rfl | (simp; done) | (simp [*]; done)), H', ⟨by have := HK1.out; have := HJ5.out; omega⟩, ⟨by (with_reducible repeat (first | apply Kd.R_alloc | apply Kd.R_drewN | apply Kd.R_drew)); exact HO_5.out⟩, ⟨by repeat (first | (with_reducible first | exact HB.out | apply below_alloc | apply pw_below_drewN | apply below_drew1) | exact HB.out)⟩⟩
         ·
          rw [if_neg c14] at H
          have c14b0 : (((rd_T41 t265 x10_1).f0) == 60) = false := beq_eq_false_iff_ne.mpr c14
          have c14b1 : (((rd_T41 t265 x10_1).f0) != 60) = true := bne_iff_ne.mpr c14
          have H' := Aside0.mk H
          clear H
          obtain ⟨Ao16, co16, eo16⟩ := Kd.R_slice HO_5.out
          subst eo16
          have p272 : 0 ≤ (x10_1 : Int) := of_decide_eq_true (by first | (with_reducible assumption) | assumption)
          have q272 : x10_1 < (t265.length : Int) := of_decide_eq_true (by first | (with_reducible assumption) | assumption)
          obtain ⟨ad272, e272, hx272_0, hx272_1, hx272_2⟩ := at_T41 (Kd.R_reads' HO_5.out).2.2 x10_1 p272 q272
          cases e272
          replace p272 := eq_true p272
          replace q272 := eq_true q272
          have p273 : 0 ≤ (x10_1 : Int) := of_decide_eq_true (by first | (with_reducible assumption) | assumption)
          have q273 : x10_1 < (t265.length : Int) := of_decide_eq_true (by first | (with_reducible assumption) | assumption)
          obtain ⟨ad273, e273, hx273_0, hx273_1, hx273_2⟩ := at_T41 (Kd.R_reads' HO_5.out).2.2 x10_1 p273 q273
          obtain rfl : ad272 = ad273 := (by injection e273)
          replace p273 := eq_true p273
          replace q273 := eq_true q273
          have p274 : 0 ≤ (x10_1 : Int) := of_decide_eq_true (by first | (with_reducible assumption) | assumption)
          have q274 : x10_1 < (t265.length : Int) := of_decide_eq_true (by first | (with_reducible assumption) | assumption)
          obtain ⟨ad274, e274, hx274_0, hx274_1, hx274_2⟩ := at_T41 (Kd.R_reads' HO_5.out).2.2 x10_1 p274 q274
          obtain rfl : ad272 = ad274 := (by injection e274)
          replace p274 := eq_true p274
          replace q274 := eq_true q274
          go_wp2
          repeat (go_quiet (fail); try go_wp2)
          go_roundg kj5
          case measure => have := HK1.out; have := HJ5.out; omega
          case rel => exact ⟨(wrap64 (((rd_T41 t265 x10_1).f1) + ((rd_T41 t265 x10_1).f2))), (wrap64 (x10_1 + 1)), (by first | rfl | (simp; done) | (simp [*]; done)), (by first | rfl | (simp; done) | (simp [*]; done)), H', ⟨by have := HK1.out; have := HJ5.out; omega⟩, ⟨by (with_reducible repeat (first | apply Kd.R_alloc | apply Kd.R_drewN | apply Kd.R_drew)); exact HO_5.out⟩, ⟨by repeat (first | (with_reducible first | exact HB.out | apply below_alloc | apply pw_below_drewN | apply below_drew1) | exact HB.out)⟩⟩
        ·
         rw [if_neg c13] at H
         exact absurd H (by simp)
       ·
        rw [if_neg c12] at H
        exact absurd H (by simp)
      ·
       replace c11 := Bool.eq_false_iff.mpr c11
       subst c11
       have H1 : (some x9_1) = some r := by rw [if_neg (show ¬ (false = true) by decide)] at H; exact H
       clear H
       have H := H1
       clear H1
       obtain rfl := Option.some.inj H
       go_wp2
       repeat (go_quiet (fail); try go_wp2)
       go_ret
       exact ⟨by first | rfl | (simp [errW_none, errW_some] <;> rfl) | (simp [*, errW_none, errW_some] <;> rfl), by repeat (first | (with_reducible first | exact HB.out | apply below_alloc | apply pw_below_drewN | apply below_drew1) | exact HB.out)⟩
 ·
  rw [if_neg c4] at H
  have c4b0 : (t268 == 0) = false := beq_eq_false_iff_ne.mpr c4
  have c4b1 : (t268 != 0) = true := bne_iff_ne.mpr c4
  obtain rfl := Option.some.inj H
  go_enter Try.func20, Try.ntmps20
  go_wp2_with (first | (go_at_call 17; (with_reducible refine (crosswayref07_Chain.calls k a0 a1 t265 t266 t267 t268 _ A3.out).mono ?_); rintro e w17 ⟨v269, rfl, ho0, hb⟩; have n0_ := Aside0.mk (Kd.R_lower ho0 (below_size (by repeat (first | (with_reducible first | exact HB.out | apply below_alloc | apply pw_below_drewN | apply below_drew1) | exact HB.out)))); have n1_ := Aside0.mk (below_step (by repeat (first | (with_reducible first | exact HB.out | apply below_alloc | apply pw_below_drewN | apply below_drew1) | exact HB.out)) hb); clear HB; have HO270 := n0_; have HB := n1_; clear n0_ n1_; (try clear hb); (try clear hb2); (try clear hk); (try clear hi); (try clear ho0)))
  repeat (go_quiet (first | (go_at_call 17; (with_reducible refine (crosswayref07_Chain.calls k a0 a1 t265 t266 t267 t268 _ A3.out).mono ?_); rintro e w17 ⟨v269, rfl, ho0, hb⟩; have n0_ := Aside0.mk (Kd.R_lower ho0 (below_size (by repeat (first | (with_reducible first | exact HB.out | apply below_alloc | apply pw_below_drewN | apply below_drew1) | exact HB.out)))); have n1_ := Aside0.mk (below_step (by repeat (first | (with_reducible first | exact HB.out | apply below_alloc | apply pw_below_drewN | apply below_drew1) | exact HB.out)) hb); clear HB; have HO270 := n0_; have HB := n1_; clear n0_ n1_; (try clear hb); (try clear hb2); (try clear hk); (try clear hi); (try clear ho0))); try go_wp2_with (first | (go_at_call 17; (with_reducible refine (crosswayref07_Chain.calls k a0 a1 t265 t266 t267 t268 _ A3.out).mono ?_); rintro e w17 ⟨v269, rfl, ho0, hb⟩; have n0_ := Aside0.mk (Kd.R_lower ho0 (below_size (by repeat (first | (with_reducible first | exact HB.out | apply below_alloc | apply pw_below_drewN | apply below_drew1) | exact HB.out)))); have n1_ := Aside0.mk (below_step (by repeat (first | (with_reducible first | exact HB.out | apply below_alloc | apply pw_below_drewN | apply below_drew1) | exact HB.out)) hb); clear HB; have HO270 := n0_; have HB := n1_; clear n0_ n1_; (try clear hb); (try clear hb2); (try clear hk); (try clear hi); (try clear ho0))))
  go_ret
  exact ⟨by first | rfl | (simp [errW_none, errW_some] <;> rfl) | (simp [*, errW_none, errW_some] <;> rfl), by repeat (first | (with_reducible first | exact HB.out | apply below_alloc | apply pw_below_drewN | apply below_drew1) | exact HB.out)⟩

end Go.Proofs.Ytfkdmdacicahcaa.PBase
