/- Functions of the program as Lean functions, each with a proof that a call comes to what it says. Conditions: those of each theorem. Laid by a program of this session. -/
import Derived.Test.YtedampcicmaamaaPBasex0
namespace Go.Proofs.Ytedampcicmaamaa.PBase
open Go.RowKit Go.Proofs.Ytedampcicmaamaa Go.Proofs.YtedampcicmaamaaW.PrintWords Go.Proofs.YtedampcicmaamaaW.PrintLast Go.Proofs.YtedampcicmaamaaW.PrintMore
attribute [local go_sem] max2_int min2_int max_two min_two max_three min_three max_four min_four   -- for this text's walks alone
set_option linter.unusedVariables false
set_option linter.unusedSimpArgs false

/-! ### crosswayref06_Options: function 16 -/
mutual
def crosswayref06_Options.l0 : Nat → ByteArray → List (S44) → Int → Option ((List (S44)) × Int)
 | 0, _, _, _ => none
 | k + 1, x0, x4, x5 => if x5 < (x0.size : Int) then (if 0 ≤ x5 then (crosswayref06_Options.j1 k x0 x4 x5 ((bt x0 x5) != 0)) else (none)) else (crosswayref06_Options.j1 k x0 x4 x5 false)
def crosswayref06_Options.j1 : Nat → ByteArray → List (S44) → Int → Bool → Option ((List (S44)) × Int)
 | 0, _, _, _, _ => none
 | k + 1, x0, x4, x5, x16 => if x16 = true then (if 0 ≤ x5 then (if x5 < (x0.size : Int) then (if (bt x0 x5) = 1 then (if x4.length < 5864062014805 then (crosswayref06_Options.l0 k x0 (x4 ++ [(⟨1, (⟨#[]⟩ : ByteArray)⟩ : S44)]) (wrap64 (x5 + 1))) else (none)) else (if (wrap64 (x5 + 1)) ≥ (x0.size : Int) then (some (([] : List (S44)), 50)) else (if 0 ≤ (wrap64 (x5 + 1)) then (if (wrap64 (x5 + 1)) < (x0.size : Int) then (if (wrap64 (bt x0 (wrap64 (x5 + 1)))) < 2 then (some (([] : List (S44)), 50)) else (if (wrap64 (x5 + (wrap64 (bt x0 (wrap64 (x5 + 1)))))) > (x0.size : Int) then (some (([] : List (S44)), 50)) else (if 0 ≤ (wrap64 (x5 + 2)) then (if (wrap64 (x5 + 2)) ≤ (wrap64 (x5 + (wrap64 (bt x0 (wrap64 (x5 + 1)))))) then (if (wrap64 (x5 + (wrap64 (bt x0 (wrap64 (x5 + 1)))))) ≤ (x0.size : Int) then (if x4.length < 5864062014805 then (crosswayref06_Options.l0 k x0 (x4 ++ [(⟨wrap64 (bt x0 x5), x0.extract ((wrap64 (x5 + 2)) : Int).toNat ((wrap64 (x5 + (wrap64 (bt x0 (wrap64 (x5 + 1)))))) : Int).toNat⟩ : S44)]) (wrap64 (x5 + (wrap64 (bt x0 (wrap64 (x5 + 1))))))) else (none)) else (none)) else (none)) else (none)))) else (none)) else (none)))) else (none)) else (none)) else (some (x4, 0))
end
def crosswayref06_Options.f (k : Nat) (a0 : ByteArray) : Option ((List (S44)) × Int) := crosswayref06_Options.l0 k a0 ([] : List (S44)) 0
theorem crosswayref06_Options.mono_l : ∀ k, (∀ y0 y1 y2, LeO (crosswayref06_Options.l0 k y0 y1 y2) (crosswayref06_Options.l0 (k + 1) y0 y1 y2)) ∧ (∀ y0 y1 y2 y3, LeO (crosswayref06_Options.j1 k y0 y1 y2 y3) (crosswayref06_Options.j1 (k + 1) y0 y1 y2 y3))
 | 0 => ⟨fun _ _ _ r h => by simp [crosswayref06_Options.l0] at h, fun _ _ _ _ r h => by simp [crosswayref06_Options.j1] at h⟩
 | k + 1 => by
  obtain ⟨ih0, ih1⟩ := crosswayref06_Options.mono_l k
  refine ⟨?_, ?_⟩
  ·
   intro y0 y1 y2
   unfold crosswayref06_Options.l0
   repeat' first
   | (with_reducible exact ih0 _ _ _)
   | (with_reducible exact ih1 _ _ _ _)
   | (with_reducible exact LeO.refl _)
   | (with_reducible exact LeO.none _)
   | (with_reducible refine LeO.ite ?_ ?_)
   | (with_reducible refine LeO.bind ?_ (fun _ => ?_))
   | exact ih0 _ _ _
   | exact ih1 _ _ _ _
   | exact LeO.none _
   | refine LeO.ite ?_ ?_
   | refine LeO.bind ?_ (fun _ => ?_)
  ·
   intro y0 y1 y2 y3
   unfold crosswayref06_Options.j1
   repeat' first
   | (with_reducible exact ih0 _ _ _)
   | (with_reducible exact ih1 _ _ _ _)
   | (with_reducible exact LeO.refl _)
   | (with_reducible exact LeO.none _)
   | (with_reducible refine LeO.ite ?_ ?_)
   | (with_reducible refine LeO.bind ?_ (fun _ => ?_))
   | exact ih0 _ _ _
   | exact ih1 _ _ _ _
   | exact LeO.none _
   | refine LeO.ite ?_ ?_
   | refine LeO.bind ?_ (fun _ => ?_)
theorem crosswayref06_Options.mono : ∀ a0 k, LeO (crosswayref06_Options.f k a0) (crosswayref06_Options.f (k + 1) a0) := by
 intro a0 k
 obtain ⟨ih0, ih1⟩ := crosswayref06_Options.mono_l k
 unfold crosswayref06_Options.f
 repeat' first
   | (with_reducible exact ih0 _ _ _)
   | (with_reducible exact ih1 _ _ _ _)
   | (with_reducible exact LeO.refl _)
   | (with_reducible exact LeO.none _)
   | (with_reducible refine LeO.ite ?_ ?_)
   | (with_reducible refine LeO.bind ?_ (fun _ => ?_))
   | exact ih0 _ _ _
   | exact ih1 _ _ _ _
   | exact LeO.none _
   | refine LeO.ite ?_ ?_
   | refine LeO.bind ?_ (fun _ => ?_)
def crosswayref06_Options.T10 : Bool × List (List Nat × List Nat) := (true, [([], []), ([], []), ([], []), ([1, 2], [1, 2]), ([3], [3]), ([], []), ([], []), ([6], [6]), ([], []), ([5, 7, 8], [5, 7, 8]), ([4, 9], [4, 9]), ([10], [10]), ([0, 11], [0, 11]), ([12, 12, 0, 1, 2, 3, 4, 5, 6, 7, 8, 9, 10, 11, 12], [0, 12])])
def crosswayref06_Options.B10 : List Nat := [0, 0, 0, 6, 14, 0, 0, 64, 0, 480, 1022, 2046, 4095, 8191]
theorem crosswayref06_Options.tab10 : rtab .any (opsOf Try.f16 10) = crosswayref06_Options.T10 := by kernel_rfl
theorem crosswayref06_Options.bits10 : waitsOk crosswayref06_Options.T10.2 crosswayref06_Options.B10 = true := by kernel_rfl
set_option maxHeartbeats 8000000 in
set_option maxRecDepth 100000 in
theorem crosswayref06_Options.calls (k : Nat) (a0 : ByteArray) (r1 : List (S44)) (r2 : Int) (w : World) (h : crosswayref06_Options.f k a0 = some (r1, r2)) :
  Calls Try.prog 16 #[.string a0] w fun e w' => ∃ v0_ : Value, e = .returned (.tuple #[v0_, .int .i64 r2]) ∧ Kd.R k44 44 w' w.heap.size (fun _ => True) v0_ r1 ∧ Below w.heap.size w w' := by
 have hu44 := Try.underlying44
 have HB := Aside0.mk (Below.refl w.heap.size w)
 have H : (crosswayref06_Options.l0 k a0 ([] : List (S44)) 0) = some (r1, r2) := h
 clear h
 have H' := Aside0.mk H
 clear H
 go_enter Try.func16, Try.ntmps16
 go_wp2
 go_loopg [4, 5] k (fun kq v4 v5 w' => ∃ (x4_1 : List (S44)) (x5_1 : Int), v5 = .int .i64 x5_1 ∧ Aside0 (crosswayref06_Options.l0 kq a0 x4_1 x5_1 = some (r1, r2)) ∧ Aside0 (kq ≤ k) ∧ Aside0 (Kd.R k44 44 w' w.heap.size (fun _ => True) v4 x4_1) ∧ Aside0 (Below w.heap.size w w'))
 case atStart => exact ⟨(([] : List (S44))), (0), (by first | rfl | (simp; done) | (simp [*]; done)), H', ⟨Nat.le_refl _⟩, ⟨by first | exact Kd.R_nil _ _ _ _ _ | exact Kd.N_nil _ _ _ _ _ | exact Kd.V_nil _ _ _ _ _ | exact Kd.Q_nil _ _ _ _ _ | exact Kd.S_nil _ _ _ _ _⟩, ⟨by repeat (first | (with_reducible first | exact HB.out | apply below_alloc | apply pw_below_drewN | apply below_drew1) | exact HB.out)⟩⟩
 case round =>
  clear H'
  try clear c1
  obtain ⟨x4_1, x5_1, rfl, HA, HK1, HO_4, HB⟩ := hrel
  cases gk with
  | zero => exact absurd HA.out (by simp [crosswayref06_Options.l0])
  | succ k1 =>
   have H := HA.out
   clear HA
   simp only [crosswayref06_Options.l0] at H
   have HC2 := Aside0.mk H
   clear H
   go_upto_region 3 with (fail)
   go_cut [16] (fun v16 wc => ∃ (kq : Nat) (x16_1 : Bool), v16 = .bool x16_1 ∧ Aside0 (crosswayref06_Options.j1 kq a0 x4_1 x5_1 x16_1 = some (r1, r2)) ∧ Aside0 (kq ≤ k1) ∧ Aside0 (Kd.R k44 44 wc w.heap.size (fun _ => True) u4 x4_1) ∧ Aside0 (Below w.heap.size w wc))
   case first =>
    have H := HC2.out
    clear HC2
    by_cases c3 : x5_1 < (a0.size : Int)
    ·
     rw [if_pos c3] at H
     have c3b0 : decide (x5_1 < (a0.size : Int)) = true := decide_eq_true c3
     clear c3
     (first | rw [c3b0] | (simp only [i64_w, i32_w]; rw [c3b0]) | skip)
     by_cases c4 : 0 ≤ x5_1
     ·
      rw [if_pos c4] at H
      have c4b0 : decide (0 ≤ x5_1) = true := decide_eq_true c4
      clear c4
      have H' := Aside0.mk H
      clear H
      have p5 : 0 ≤ (x5_1 : Int) := of_decide_eq_true (by first | (with_reducible assumption) | assumption)
      have q5 : x5_1 < (a0.size : Int) := of_decide_eq_true (by first | (with_reducible assumption) | assumption)
      have hx5 := bt_at a0 x5_1
      replace p5 := eq_true p5
      replace q5 := eq_true q5
      go_wp2
      go_meet
      case rel => exact ⟨_, (((bt a0 x5_1) != 0)), (by first | rfl | (simp; done) | (simp [*]; done)), H', ⟨by have := HK1.out; first | omega | exact Nat.le_refl _⟩, ⟨by (with_reducible repeat (first | apply Kd.R_alloc | apply Kd.R_drewN | apply Kd.R_drew)); exact HO_4.out⟩, ⟨by repeat (first | (with_reducible first | exact HB.out | apply below_alloc | apply pw_below_drewN | apply below_drew1) | exact HB.out)⟩⟩
     ·
      rw [if_neg c4] at H
      exact absurd H (by simp)
    ·
     rw [if_neg c3] at H
     have c3b0 : decide (x5_1 < (a0.size : Int)) = false := decide_eq_false c3
     clear c3
     (first | rw [c3b0] | (simp only [i64_w, i32_w]; rw [c3b0]) | skip)
     have H' := Aside0.mk H
     clear H
     go_wp2
     go_meet
     case rel => exact ⟨_, (false), (by first | rfl | (simp; done) | (simp [*]; done)), H', ⟨by have := HK1.out; first | omega | exact Nat.le_refl _⟩, ⟨by (with_reducible repeat (first | apply Kd.R_alloc | apply Kd.R_drewN | apply Kd.R_drew)); exact HO_4.out⟩, ⟨by repeat (first | (with_reducible first | exact HB.out | apply below_alloc | apply pw_below_drewN | apply below_drew1) | exact HB.out)⟩⟩
   case rest =>
    clear HC2
    try clear c1
    try clear p2
    try clear c3
    try clear c3b0
    try clear c4
    try clear c4b0
    try clear p5
    try clear q5
    try clear hx5
    try clear p5
    try clear q5
    obtain ⟨kq, x16_1, rfl, HA, HJ1, HO_4, HB⟩ := hcut
    cases kq with
    | zero => exact absurd HA.out (by simp [crosswayref06_Options.j1])
    | succ kj1 =>
     have H := HA.out
     clear HA
     simp only [crosswayref06_Options.j1] at H
     by_cases c6 : x16_1 = true
     ·
      subst c6
      rw [if_pos rfl] at H
      by_cases c7 : 0 ≤ x5_1
      ·
       rw [if_pos c7] at H
       have c7b0 : decide (0 ≤ x5_1) = true := decide_eq_true c7
       clear c7
       by_cases c8 : x5_1 < (a0.size : Int)
       ·
        rw [if_pos c8] at H
        have c8b0 : decide (x5_1 < (a0.size : Int)) = true := decide_eq_true c8
        clear c8
        by_cases c10 : (bt a0 x5_1) = 1
        ·
         rw [if_pos c10] at H
         have c10b0 : ((bt a0 x5_1) == 1) = true := beq_iff_eq.mpr c10
         have c10b1 : ((bt a0 x5_1) != 1) = false := bne_eq_false_iff_eq.mpr c10
         clear c10
         by_cases c11 : x4_1.length < 5864062014805
         ·
          rw [if_pos c11] at H
          have LMc11 := Aside0.mk c11
          clear c11
          obtain ⟨y209, hy209⟩ : ∃ y_ : List (S44), y_ = (x4_1 ++ [(⟨1, (⟨#[]⟩ : ByteArray)⟩ : S44)]) := ⟨_, rfl⟩
          replace H : (crosswayref06_Options.l0 kj1 a0 y209 (wrap64 (x5_1 + 1))) = some (r1, r2) := by first | (rw [hy209]; with_reducible exact H) | (have H2_ := (Option.bind_some _ _).symm.trans H; rw [hy209]; with_reducible exact H2_) | (have H2_ := (Option.bind_some _ _).symm.trans H; with_reducible exact H2_) | with_reducible exact H | (rw [hy209]; exact H) | exact H
          have Ny209 := Aside0.mk hy209
          clear hy209
          have H' := Aside0.mk H
          clear H
          have p9 : 0 ≤ (x5_1 : Int) := of_decide_eq_true (by first | (with_reducible assumption) | assumption)
          have q9 : x5_1 < (a0.size : Int) := of_decide_eq_true (by first | (with_reducible assumption) | assumption)
          have hx9 := bt_at a0 x5_1
          replace p9 := eq_true p9
          replace q9 := eq_true q9
          go_wp2_with (first | ((with_reducible refine gate_builtin (b := .append) (xs := #[.tmp 21, .tmp 23]) rfl ?_); (try (refine gate_guard (by rfl) ?_; dsimp only)); at_builtin; refine Kd.R_append k44 (w0 := w) w.heap.size rfl (.tmp 21) (.tmp 23) 36 44 (.agg #[(.int .i64 0), (.string ⟨#[]⟩)]) 24 rfl Try.underlying36 info44 rfl (by decide) (by omega) u4 x4_1 (⟨1, (⟨#[]⟩ : ByteArray)⟩ : S44) [.int .i64 1, .string (⟨#[]⟩ : ByteArray)] (fun _ => True) (fun _ => False) rfl rfl ?aP (fun _ hk => hk.elim) ?aF ?aO ?aB ?aS ?aL ?_; (case aP => exact k44_mkM _ _ _ (⟨1, (⟨#[]⟩ : ByteArray)⟩ : S44)); (case aB => exact (sh_B HB)); (case aF => exact (fun _ _ => trivial)); (case aO => exact (by (with_reducible repeat (first | apply Kd.R_alloc | apply Kd.R_drewN | apply Kd.R_drew)); exact HO_4.out)); (case aS => exact (below_size (sh_B HB))); (case aL => have := LMc11.out; omega); intro v210 w12 ho hb hg hat; rw [← Ny209.out] at ho; have n0_ := Aside0.mk (hb); have n1_ := Aside0.mk (ho); clear HB; clear HO_4; have HB := n0_; have HO211 := n1_; clear n0_ n1_; clear ho hb hg hat))
          go_roundg kj1
          case measure => have := HK1.out; have := HJ1.out; omega
          case rel => exact ⟨(y209), (wrap64 (x5_1 + 1)), (by first | rfl | (simp; done) | (simp [*]; done)), H', ⟨by have := HK1.out; have := HJ1.out; omega⟩, ⟨by (with_reducible repeat (first | apply Kd.R_alloc | apply Kd.R_drewN | apply Kd.R_drew)); exact HO211.out⟩, ⟨by repeat (first | (with_reducible first | exact HB.out | apply below_alloc | apply pw_below_drewN | apply below_drew1) | exact HB.out)⟩⟩
         ·
          rw [if_neg c11] at H
          exact absurd H (by simp)
        ·
         rw [if_neg c10] at H
         have c10b0 : ((bt a0 x5_1) == 1) = false := beq_eq_false_iff_ne.mpr c10
         have c10b1 : ((bt a0 x5_1) != 1) = true := bne_iff_ne.mpr c10
         by_cases c13 : (wrap64 (x5_1 + 1)) ≥ (a0.size : Int)
         ·
          rw [if_pos c13] at H
          have c13b0 : decide ((a0.size : Int) ≤ (wrap64 (x5_1 + 1))) = true := decide_eq_true c13
          clear c13
          simp only [Option.some.injEq, Prod.mk.injEq] at H
          obtain ⟨rfl, rfl⟩ := H
          have p9 : 0 ≤ (x5_1 : Int) := of_decide_eq_true (by first | (with_reducible assumption) | assumption)
          have q9 : x5_1 < (a0.size : Int) := of_decide_eq_true (by first | (with_reducible assumption) | assumption)
          have hx9 := bt_at a0 x5_1
          replace p9 := eq_true p9
          replace q9 := eq_true q9
          go_wp2
          go_ret2
          exact ⟨_, by first | rfl | (simp [errW_none, errW_some] <;> rfl) | (simp [*, errW_none, errW_some] <;> rfl), by first | exact Kd.R_nil _ _ _ _ _ | exact Kd.N_nil _ _ _ _ _ | exact Kd.V_nil _ _ _ _ _ | exact Kd.Q_nil _ _ _ _ _ | exact Kd.S_nil _ _ _ _ _, by repeat (first | (with_reducible first | exact HB.out | apply below_alloc | apply pw_below_drewN | apply below_drew1) | exact HB.out)⟩
         ·
          rw [if_neg c13] at H
          have c13b0 : decide ((a0.size : Int) ≤ (wrap64 (x5_1 + 1))) = false := decide_eq_false c13
          clear c13
          obtain ⟨ji14, hji14⟩ : ∃ j_ : Int, (wrap64 (x5_1 + 1)) = j_ := ⟨_, rfl⟩
          replace H : (if 0 ≤ (ji14) then (if (ji14) < (a0.size : Int) then (if (wrap64 (bt a0 (ji14))) < 2 then (some (([] : List (S44)), 50)) else (if (wrap64 (x5_1 + (wrap64 (bt a0 (ji14))))) > (a0.size : Int) then (some (([] : List (S44)), 50)) else (if 0 ≤ (wrap64 (x5_1 + 2)) then (if (wrap64 (x5_1 + 2)) ≤ (wrap64 (x5_1 + (wrap64 (bt a0 (ji14))))) then (if (wrap64 (x5_1 + (wrap64 (bt a0 (ji14))))) ≤ (a0.size : Int) then (if x4_1.length < 5864062014805 then (crosswayref06_Options.l0 kj1 a0 (x4_1 ++ [(⟨wrap64 (bt a0 x5_1), a0.extract ((wrap64 (x5_1 + 2)) : Int).toNat ((wrap64 (x5_1 + (wrap64 (bt a0 (ji14))))) : Int).toNat⟩ : S44)]) (wrap64 (x5_1 + (wrap64 (bt a0 (ji14)))))) else (none)) else (none)) else (none)) else (none)))) else (none)) else (none)) = some (r1, r2) := by first | (rw [hji14] at H; exact H) | (simp only [hji14] at H ⊢; exact H)
          (try rw [hji14] at c13b0)
          have hji14w : (IntKind.i64.wrap (x5_1 + 1)) = ji14 := (i64_w _).trans hji14
          by_cases c15 : 0 ≤ (ji14)
          ·
           rw [if_pos c15] at H
           have c15b0 : decide (0 ≤ (ji14)) = true := decide_eq_true c15
           clear c15
           by_cases c16 : (ji14) < (a0.size : Int)
           ·
            rw [if_pos c16] at H
            have c16b0 : decide ((ji14) < (a0.size : Int)) = true := decide_eq_true c16
            clear c16
            by_cases c18 : (wrap64 (bt a0 (ji14))) < 2
            ·
             rw [if_pos c18] at H
             have c18b0 : decide ((wrap64 (bt a0 (ji14))) < 2) = true := decide_eq_true c18
             clear c18
             simp only [Option.some.injEq, Prod.mk.injEq] at H
             obtain ⟨rfl, rfl⟩ := H
             have p9 : 0 ≤ (x5_1 : Int) := of_decide_eq_true (by first | (with_reducible assumption) | assumption)
             have q9 : x5_1 < (a0.size : Int) := of_decide_eq_true (by first | (with_reducible assumption) | assumption)
             have hx9 := bt_at a0 x5_1
             replace p9 := eq_true p9
             replace q9 := eq_true q9
             have p17 : 0 ≤ ((ji14) : Int) := of_decide_eq_true (by first | (with_reducible assumption) | assumption)
             have q17 : (ji14) < (a0.size : Int) := of_decide_eq_true (by first | (with_reducible assumption) | assumption)
             have hx17 := bt_at a0 (ji14)
             replace p17 := eq_true p17
             replace q17 := eq_true q17
             go_wp2
             go_ret2
             exact ⟨_, by first | rfl | (simp [errW_none, errW_some] <;> rfl) | (simp only [← hji14]; first | rfl | (simp [errW_none, errW_some] <;> rfl)) | (simp [*, errW_none, errW_some] <;> rfl), by first | exact Kd.R_nil _ _ _ _ _ | exact Kd.N_nil _ _ _ _ _ | exact Kd.V_nil _ _ _ _ _ | exact Kd.Q_nil _ _ _ _ _ | exact Kd.S_nil _ _ _ _ _, by repeat (first | (with_reducible first | exact HB.out | apply below_alloc | apply pw_below_drewN | apply below_drew1) | exact HB.out)⟩
            ·
             rw [if_neg c18] at H
             have c18b0 : decide ((wrap64 (bt a0 (ji14))) < 2) = false := decide_eq_false c18
             clear c18
             by_cases c20 : (wrap64 (x5_1 + (wrap64 (bt a0 (ji14))))) > (a0.size : Int)
             ·
              rw [if_pos c20] at H
              have c20b0 : decide ((a0.size : Int) < (wrap64 (x5_1 + (wrap64 (bt a0 (ji14)))))) = true := decide_eq_true c20
              clear c20
              simp only [Option.some.injEq, Prod.mk.injEq] at H
              obtain ⟨rfl, rfl⟩ := H
              have p9 : 0 ≤ (x5_1 : Int) := of_decide_eq_true (by first | (with_reducible assumption) | assumption)
              have q9 : x5_1 < (a0.size : Int) := of_decide_eq_true (by first | (with_reducible assumption) | assumption)
              have hx9 := bt_at a0 x5_1
              replace p9 := eq_true p9
              replace q9 := eq_true q9
              have p17 : 0 ≤ ((ji14) : Int) := of_decide_eq_true (by first | (with_reducible assumption) | assumption)
              have q17 : (ji14) < (a0.size : Int) := of_decide_eq_true (by first | (with_reducible assumption) | assumption)
              have hx17 := bt_at a0 (ji14)
              replace p17 := eq_true p17
              replace q17 := eq_true q17
              have p19 : 0 ≤ ((ji14) : Int) := of_decide_eq_true (by first | (with_reducible assumption) | assumption)
              have q19 : (ji14) < (a0.size : Int) := of_decide_eq_true (by first | (with_reducible assumption) | assumption)
              have hx19 := bt_at a0 (ji14)
              replace p19 := eq_true p19
              replace q19 := eq_true q19
              go_wp2
              go_ret2
              exact ⟨_, by first | rfl | (simp [errW_none, errW_some] <;> rfl) | (simp only [← hji14]; first | rfl | (simp [errW_none, errW_some] <;> rfl)) | (simp [*, errW_none, errW_some] <;> rfl), by first | exact Kd.R_nil _ _ _ _ _ | exact Kd.N_nil _ _ _ _ _ | exact Kd.V_nil _ _ _ _ _ | exact Kd.Q_nil _ _ _ _ _ | exact Kd.S_nil _ _ _ _ _, by repeat (first | (with_reducible first | exact HB.out | apply below_alloc | apply pw_below_drewN | apply below_drew1) | exact HB.out)⟩
             ·
              rw [if_neg c20] at H
              have c20b0 : decide ((a0.size : Int) < (wrap64 (x5_1 + (wrap64 (bt a0 (ji14)))))) = false := decide_eq_false c20
              clear c20
              obtain ⟨ji23, hji23⟩ : ∃ j_ : Int, (wrap64 (x5_1 + 2)) = j_ := ⟨_, rfl⟩
              replace H : (if 0 ≤ (ji23) then (if (ji23) ≤ (wrap64 (x5_1 + (wrap64 (bt a0 (ji14))))) then (if (wrap64 (x5_1 + (wrap64 (bt a0 (ji14))))) ≤ (a0.size : Int) then (if x4_1.length < 5864062014805 then (crosswayref06_Options.l0 kj1 a0 (x4_1 ++ [(⟨wrap64 (bt a0 x5_1), a0.extract ((ji23) : Int).toNat ((wrap64 (x5_1 + (wrap64 (bt a0 (ji14))))) : Int).toNat⟩ : S44)]) (wrap64 (x5_1 + (wrap64 (bt a0 (ji14)))))) else (none)) else (none)) else (none)) else (none)) = some (r1, r2) := by first | (rw [hji23] at H; exact H) | (simp only [hji23] at H ⊢; exact H)
              have hji23w : (IntKind.i64.wrap (x5_1 + 2)) = ji23 := (i64_w _).trans hji23
              by_cases c24 : 0 ≤ (ji23)
              ·
               rw [if_pos c24] at H
               have c24b0 := eq_true c24
               have c24b1 : decide (0 ≤ (ji23)) = true := decide_eq_true c24
               clear c24
               by_cases c25 : (ji23) ≤ (wrap64 (x5_1 + (wrap64 (bt a0 (ji14)))))
               ·
                rw [if_pos c25] at H
                have c25b0 := eq_true c25
                have c25b1 : decide ((ji23) ≤ (wrap64 (x5_1 + (wrap64 (bt a0 (ji14)))))) = true := decide_eq_true c25
                by_cases c26 : (wrap64 (x5_1 + (wrap64 (bt a0 (ji14))))) ≤ (a0.size : Int)
                ·
                 rw [if_pos c26] at H
                 have c26b0 := eq_true c26
                 have c26b1 : decide ((wrap64 (x5_1 + (wrap64 (bt a0 (ji14))))) ≤ (a0.size : Int)) = true := decide_eq_true c26
                 by_cases c27 : x4_1.length < 5864062014805
                 ·
                  rw [if_pos c27] at H
                  have LMc27 := Aside0.mk c27
                  clear c27
                  obtain ⟨y212, hy212⟩ : ∃ y_ : List (S44), y_ = (x4_1 ++ [(⟨wrap64 (bt a0 x5_1), a0.extract ((ji23) : Int).toNat ((wrap64 (x5_1 + (wrap64 (bt a0 (ji14))))) : Int).toNat⟩ : S44)]) := ⟨_, rfl⟩
                  replace H : (crosswayref06_Options.l0 kj1 a0 y212 (wrap64 (x5_1 + (wrap64 (bt a0 (ji14)))))) = some (r1, r2) := by first | (rw [hy212]; with_reducible exact H) | (have H2_ := (Option.bind_some _ _).symm.trans H; rw [hy212]; with_reducible exact H2_) | (have H2_ := (Option.bind_some _ _).symm.trans H; with_reducible exact H2_) | with_reducible exact H | (rw [hy212]; exact H) | exact H
                  have Ny212 := Aside0.mk hy212
                  clear hy212
                  have H' := Aside0.mk H
                  clear H
                  have p9 : 0 ≤ (x5_1 : Int) := of_decide_eq_true (by first | (with_reducible assumption) | assumption)
                  have q9 : x5_1 < (a0.size : Int) := of_decide_eq_true (by first | (with_reducible assumption) | assumption)
                  have hx9 := bt_at a0 x5_1
                  replace p9 := eq_true p9
                  replace q9 := eq_true q9
                  have p17 : 0 ≤ ((ji14) : Int) := of_decide_eq_true (by first | (with_reducible assumption) | assumption)
                  have q17 : (ji14) < (a0.size : Int) := of_decide_eq_true (by first | (with_reducible assumption) | assumption)
                  have hx17 := bt_at a0 (ji14)
                  replace p17 := eq_true p17
                  replace q17 := eq_true q17
                  have p19 : 0 ≤ ((ji14) : Int) := of_decide_eq_true (by first | (with_reducible assumption) | assumption)
                  have q19 : (ji14) < (a0.size : Int) := of_decide_eq_true (by first | (with_reducible assumption) | assumption)
                  have hx19 := bt_at a0 (ji14)
                  replace p19 := eq_true p19
                  replace q19 := eq_true q19
                  have p21 : 0 ≤ ((ji14) : Int) := of_decide_eq_true (by first | (with_reducible assumption) | assumption)
                  have q21 : (ji14) < (a0.size : Int) := of_decide_eq_true (by first | (with_reducible assumption) | assumption)
                  have hx21 := bt_at a0 (ji14)
                  replace p21 := eq_true p21
                  replace q21 := eq_true q21
                  try go_wp2
                  have n0_ := Aside0.mk (Kd.R_drew HO_4.out)
                  have n1_ := Aside0.mk (below_drew1 HB.out)
                  clear HO_4 HB
                  have HO_4 := n0_
                  have HB := n1_
                  clear n0_ n1_
                  have p22 : 0 ≤ (x5_1 : Int) := of_decide_eq_true (by first | (with_reducible assumption) | assumption)
                  have q22 : x5_1 < (a0.size : Int) := of_decide_eq_true (by first | (with_reducible assumption) | assumption)
                  have hx22 := bt_at a0 x5_1
                  replace p22 := eq_true p22
                  replace q22 := eq_true q22
                  refine start_ (n := 14) (S := fun w' => True) (ds := []) #[false, false, false, false, false, false, false, false, false, false, false, false, false, false] (by kernel_rfl) rfl rfl trivial (fun hHeld => ?_); refine with_tabW crosswayref06_Options.tab10 crosswayref06_Options.bits10 (fun HT_ HW_ => ?_)
                  generalize wc.drew = w28 at HO_4 HB hHeld ⊢
                  refine pure_ (i := 0) (N := some 59) (v := ?_) (a' := ?_) #[true, false, false, false, false, false, false, false, false, false, false, false, false, false] rfl rfl (any_of HT_.out (by kernel_rfl)) (fun _ _ _ h => h) (Or.inl ⟨by rfl, ?_⟩) ?_ ?_
                  rotate_left
                  ·
                   intro w'
                   go_simp
                   with_reducible rfl
                  rotate_left
                  ·
                   simp only [Act.put, List.setIfInBounds_toArray, List.set_cons_zero, List.set_cons_succ, i64_w, i32_w]
                   rfl
                  refine pure_ (i := 1) (N := some 60) (v := ?_) (a' := ?_) #[true, true, false, false, false, false, false, false, false, false, false, false, false, false] rfl rfl (any_of HT_.out (by kernel_rfl)) (fun _ _ _ h => h) (Or.inl ⟨by rfl, ?_⟩) ?_ ?_
                  rotate_left
                  ·
                   intro w'
                   go_simp
                   with_reducible rfl
                  rotate_left
                  ·
                   simp only [Act.put, List.setIfInBounds_toArray, List.set_cons_zero, List.set_cons_succ, i64_w, i32_w]
                   rfl
                  refine pure_ (i := 2) (N := some 61) (v := ?_) (a' := ?_) #[true, true, true, false, false, false, false, false, false, false, false, false, false, false] rfl rfl (any_of HT_.out (by kernel_rfl)) (fun _ _ _ h => h) (Or.inl ⟨by rfl, ?_⟩) ?_ ?_
                  rotate_left
                  ·
                   intro w'
                   go_simp
                   with_reducible rfl
                  rotate_left
                  ·
                   simp only [Act.put, List.setIfInBounds_toArray, List.set_cons_zero, List.set_cons_succ, i64_w, i32_w]
                   rfl
                  refine pure_ (i := 5) (N := some 64) (v := ?_) (a' := ?_) #[true, true, true, false, false, true, false, false, false, false, false, false, false, false] rfl rfl (any_of HT_.out (by kernel_rfl)) (fun _ _ _ h => h) (Or.inl ⟨by rfl, ?_⟩) ?_ ?_
                  rotate_left
                  ·
                   intro w'
                   go_simp
                   with_reducible rfl
                  rotate_left
                  ·
                   simp only [Act.put, List.setIfInBounds_toArray, List.set_cons_zero, List.set_cons_succ, i64_w, i32_w]
                   rfl
                  refine pure_ (i := 6) (N := some 65) (v := ?_) (a' := ?_) #[true, true, true, false, false, true, true, false, false, false, false, false, false, false] rfl rfl (any_of HT_.out (by kernel_rfl)) (fun _ _ _ h => h) (Or.inl ⟨by rfl, ?_⟩) ?_ ?_
                  rotate_left
                  ·
                   intro w'
                   go_simp
                   with_reducible rfl
                  rotate_left
                  ·
                   simp only [Act.put, List.setIfInBounds_toArray, List.set_cons_zero, List.set_cons_succ, i64_w, i32_w]
                   rfl
                  refine pure_ (i := 7) (N := some 66) (v := ?_) (a' := ?_) #[true, true, true, false, false, true, true, true, false, false, false, false, false, false] rfl rfl (any_of HT_.out (by kernel_rfl)) (fun _ _ _ h => h) (Or.inl ⟨by rfl, ?_⟩) ?_ ?_
                  rotate_left
                  ·
                   intro w'
                   go_simp
                   with_reducible rfl
                  rotate_left
                  ·
                   simp only [Act.put, List.setIfInBounds_toArray, List.set_cons_zero, List.set_cons_succ, i64_w, i32_w]
                   rfl
                  refine pure_ (i := 8) (N := some 67) (v := ?_) (a' := ?_) #[true, true, true, false, false, true, true, true, true, false, false, false, false, false] rfl rfl (any_of HT_.out (by kernel_rfl)) (fun _ _ _ h => h) (Or.inl ⟨by rfl, ?_⟩) ?_ ?_
                  rotate_left
                  ·
                   intro w'
                   go_simp
                   with_reducible rfl
                  rotate_left
                  ·
                   simp only [Act.put, List.setIfInBounds_toArray, List.set_cons_zero, List.set_cons_succ, i64_w, i32_w]
                   rfl
                  refine pure_ (i := 9) (N := some 68) (v := ?_) (a' := ?_) #[true, true, true, false, false, true, true, true, true, true, false, false, false, false] rfl rfl (any_of HT_.out (by kernel_rfl)) (fun _ _ _ h => h) (Or.inl ⟨by rfl, ?_⟩) ?_ ?_
                  rotate_left
                  ·
                   intro w'
                   go_simp
                   with_reducible rfl
                  rotate_left
                  ·
                   simp only [Act.put, List.setIfInBounds_toArray, List.set_cons_zero, List.set_cons_succ, i64_w, i32_w]
                   rfl
                  refine take_ (i := 3) (N := some 62) (v := ?_) (a' := ?_) #[true, true, true, true, false, true, true, true, true, true, false, false, false, false] rfl rfl (take_ofW HT_.out HW_.out (by kernel_rfl)) (fun _ _ _ h => h) (Or.inl ⟨by rfl, ?_⟩) hHeld ?_ ?_
                  rotate_left
                  ·
                   intro w' _
                   go_simp
                   with_reducible rfl
                  rotate_left
                  ·
                   simp only [Act.put, List.setIfInBounds_toArray, List.set_cons_zero, List.set_cons_succ, i64_w, i32_w]
                   rfl
                  refine pure_ (i := 4) (N := some 63) (v := ?_) (a' := ?_) #[true, true, true, true, true, true, true, true, true, true, false, false, false, false] rfl rfl (any_of HT_.out (by kernel_rfl)) (fun _ _ _ h => h) (Or.inl ⟨by rfl, ?_⟩) ?_ ?_
                  rotate_left
                  ·
                   intro w'
                   go_simp
                   with_reducible rfl
                  rotate_left
                  ·
                   simp only [Act.put, List.setIfInBounds_toArray, List.set_cons_zero, List.set_cons_succ, i64_w, i32_w]
                   rfl
                  refine pure_ (i := 10) (N := some 69) (v := ?_) (a' := ?_) #[true, true, true, true, true, true, true, true, true, true, true, false, false, false] rfl rfl (any_of HT_.out (by kernel_rfl)) (fun _ _ _ h => h) (Or.inl ⟨by rfl, ?_⟩) ?_ ?_
                  rotate_left
                  ·
                   intro w'
                   go_simp
                   with_reducible rfl
                  rotate_left
                  ·
                   simp only [Act.put, List.setIfInBounds_toArray, List.set_cons_zero, List.set_cons_succ, i64_w, i32_w]
                   rfl
                  refine one_ (i := 11) (N := some 70) #[true, true, true, true, true, true, true, true, true, true, true, true, false, false] rfl rfl (one_of HT_.out (by kernel_rfl)) (by decide) (fun K hK => ?_)
                  refine value_ (w1 := ?_) (v := ?_) (by rfl) rfl ?_ ?_
                  rotate_left 2
                  ·
                   go_simp
                   constructor
                   ·
                    rfl
                   ·
                    rfl
                  refine hK.out _ _ trivial (fun hHeld => ?_)
                  clear hK K
                  refine norm_ (a' := ?_) ?_ ?_
                  rotate_left
                  ·
                   show Act.put _ (some 70) _ = _
                   simp only [Act.put, List.setIfInBounds_toArray, List.set_cons_zero, List.set_cons_succ, i64_w, i32_w]
                   rfl
                  refine one_ (i := 12) (N := some 71) #[true, true, true, true, true, true, true, true, true, true, true, true, true, false] rfl rfl (one_of HT_.out (by kernel_rfl)) (by decide) (fun K hK => ?_)
                  refine Kd.R_append_step k44 (w0 := w) w.heap.size (by rfl) (.tmp 59) (.tmp 70) 36 44 (.agg #[(.int .i64 0), (.string ⟨#[]⟩)]) 24 rfl Try.underlying36 info44 rfl (by decide) (by omega) u4 x4_1 (⟨wrap64 (bt a0 x5_1), a0.extract ((ji23) : Int).toNat ((wrap64 (x5_1 + (wrap64 (bt a0 (ji14))))) : Int).toNat⟩ : S44) [.int .i64 (wrap64 (bt a0 x5_1)), .string (a0.extract ((ji23) : Int).toNat ((wrap64 (x5_1 + (wrap64 (bt a0 (ji14))))) : Int).toNat)] (fun _ => True) (fun _ => False) rfl rfl ?aP (fun _ hk => hk.elim) ?aF ?aO ?aB ?aS ?aL ?_
                  (case aP => exact k44_mkM _ _ _ (⟨wrap64 (bt a0 x5_1), a0.extract ((ji23) : Int).toNat ((wrap64 (x5_1 + (wrap64 (bt a0 (ji14))))) : Int).toNat⟩ : S44))
                  (case aB => exact (sh_B HB))
                  (case aF => exact (fun _ _ => trivial))
                  (case aO => exact (by (with_reducible repeat (first | apply Kd.R_alloc | apply Kd.R_drewN | apply Kd.R_drew)); exact HO_4.out))
                  (case aS => exact (below_size (sh_B HB)))
                  (case aL => have := LMc27.out; omega)
                  intro v213 w29 ho hb hg hat
                  rw [← Ny212.out] at ho
                  have n0_ := Aside0.mk (hb)
                  have n1_ := Aside0.mk (ho)
                  clear HB HO_4
                  have HB := n0_
                  have HO214 := n1_
                  clear n0_ n1_
                  clear ho hb hg hat
                  refine hK.out _ _ trivial (fun hHeld => ?_)
                  clear hK K
                  refine norm_ (a' := ?_) ?_ ?_
                  rotate_left
                  ·
                   show Act.put _ (some 71) _ = _
                   simp only [Act.put, List.setIfInBounds_toArray, List.set_cons_zero, List.set_cons_succ, i64_w, i32_w]
                   rfl
                  refine pure_ (i := 13) (N := some 4) (v := ?_) (a' := ?_) #[true, true, true, true, true, true, true, true, true, true, true, true, true, true] rfl rfl (any_of HT_.out (by kernel_rfl)) (fun _ _ _ h => h) (Or.inl ⟨by rfl, ?_⟩) ?_ ?_
                  rotate_left
                  ·
                   intro w'
                   go_simp
                   with_reducible rfl
                  rotate_left
                  ·
                   simp only [Act.put, List.setIfInBounds_toArray, List.set_cons_zero, List.set_cons_succ, i64_w, i32_w]
                   rfl
                  refine done_ (done_of HT_.out (by kernel_rfl)) ?_
                  try go_wp2
                  go_roundg kj1
                  case measure => have := HK1.out; have := HJ1.out; omega
                  case rel => exact ⟨(y212), (wrap64 (x5_1 + (wrap64 (bt a0 (ji14))))), (by first | rfl | (simp; done) | (simp only [← hji14] <;> (first | rfl | simp)) | (simp [*]; done)), H', ⟨by have := HK1.out; have := HJ1.out; omega⟩, ⟨by (with_reducible repeat (first | apply Kd.R_alloc | apply Kd.R_drewN | apply Kd.R_drew)); exact HO214.out⟩, ⟨by repeat (first | (with_reducible first | exact HB.out | apply below_alloc | apply pw_below_drewN | apply below_drew1) | exact HB.out)⟩⟩
                 ·
                  rw [if_neg c27] at H
                  exact absurd H (by simp)
                ·
                 rw [if_neg c26] at H
                 exact absurd H (by simp)
               ·
                rw [if_neg c25] at H
                exact absurd H (by simp)
              ·
               rw [if_neg c24] at H
               exact absurd H (by simp)
           ·
            rw [if_neg c16] at H
            exact absurd H (by simp)
          ·
           rw [if_neg c15] at H
           exact absurd H (by simp)
       ·
        rw [if_neg c8] at H
        exact absurd H (by simp)
      ·
       rw [if_neg c7] at H
       exact absurd H (by simp)
     ·
      replace c6 := Bool.eq_false_iff.mpr c6
      subst c6
      rw [if_neg (show ¬ (false = true) by decide)] at H
      simp only [Option.some.injEq, Prod.mk.injEq] at H
      obtain ⟨rfl, rfl⟩ := H
      go_wp2
      go_ret2
      exact ⟨_, by first | rfl | (simp [errW_none, errW_some] <;> rfl) | (simp [*, errW_none, errW_some] <;> rfl), by (with_reducible repeat (first | apply Kd.R_alloc | apply Kd.R_drewN | apply Kd.R_drew)); exact HO_4.out, by repeat (first | (with_reducible first | exact HB.out | apply below_alloc | apply pw_below_drewN | apply below_drew1) | exact HB.out)⟩

/-! ### crosswayref06_Kept: function 19 (by hand) -/
def crosswayref06_Kept.l : List S44 → ByteArray → Option ByteArray
 | [], out => some out
 | o :: l, out => if 127 < o.f0 then (if out.size + o.f1.size ≤ 9223372036854775800 then crosswayref06_Kept.l l (out ++ strOfNums [o.f0 % 256, (wrap64 ((o.f1.size : Int) + 2)) % 256] ++ o.f1) else none) else crosswayref06_Kept.l l out
def crosswayref06_Kept.p : Nat → ByteArray → Option ByteArray
 | 0, _ => none
 | k + 1, out => if 0 < (out.size : Int) % 4 then (if out.size ≤ 9223372036854775800 then crosswayref06_Kept.p k (out ++ ⟨#[0]⟩) else none) else some out
def crosswayref06_Kept.f (k : Nat) (a0 : ByteArray) : Option ByteArray := (crosswayref06_Options.f k a0).bind fun o => if o.1.length ≤ 1099511627776 then (crosswayref06_Kept.l o.1 ⟨#[]⟩).bind fun m => crosswayref06_Kept.p 4 m else none
theorem crosswayref06_Kept.mono : ∀ a0 k, LeO (crosswayref06_Kept.f k a0) (crosswayref06_Kept.f (k + 1) a0) := by
 intro a0 k
 unfold crosswayref06_Kept.f
 exact LeO.bind (crosswayref06_Options.mono a0 k) (fun _ => LeO.refl _)
theorem crosswayref06_Kept.size_two (a b : Int) : (strOfNums [a, b]).size = 2 := by rw [← bytesOf_length]; simp [bytesOf, strOfNums]
theorem crosswayref06_Kept.conv_two (W : World) (t : TypeId) (a b : Int) : (convert 45 9 (.slice (some ⟨W.heap.size, 0, none⟩) 2 2)).run Try.prog (W.alloc (.cells #[.int .u8 a, .int .u8 b] t (0, 0))).drew = .ok (.string (strOfNums [a, b])) (W.alloc (.cells #[.int .u8 a, .int .u8 b] t (0, 0))).drew := by
 refine run_convert_bytes_arg _ 45 5 Try.underlying45 Try.underlying5 W.heap.size 0 2 2 [a, b] rfl (fun i hi => ?_) 9 Try.underlying9
 have hb := blk_new W (.cells #[.int .u8 a, .int .u8 b] t (0, 0))
 rcases (show i = 0 ∨ i = 1 by omega) with rfl | rfl
 · exact (MBlk.c2 (w := (W.alloc (.cells #[.int .u8 a, .int .u8 b] t (0, 0))).drew) (blk_drew hb)).1
 · exact (MBlk.c2 (w := (W.alloc (.cells #[.int .u8 a, .int .u8 b] t (0, 0))).drew) (blk_drew hb)).2
set_option maxHeartbeats 4000000 in
set_option maxRecDepth 100000 in
theorem crosswayref06_Kept.calls (k : Nat) (a0 : ByteArray) (r : ByteArray) (w : World) (h : crosswayref06_Kept.f k a0 = some r) :
  Calls Try.prog 19 #[.string a0] w fun e w' => e = .returned (.string r) ∧ Below w.heap.size w w' := by
 have hu44 := Try.underlying44
 have HB := Aside0.mk (Below.refl w.heap.size w)
 obtain ⟨⟨t1, t2⟩, A10, H⟩ := Option.bind_eq_some_iff.mp h
 by_cases hlen : t1.length ≤ 1099511627776
 case neg => rw [if_neg hlen] at H; cases H
 rw [if_pos hlen] at H
 obtain ⟨m, H10, H20⟩ := Option.bind_eq_some_iff.mp H
 have HZ := Aside0.mk hlen
 clear hlen
 have A1 := Aside0.mk A10
 have H1 := Aside0.mk H10
 have H2 := Aside0.mk H20
 clear h H A10 H10 H20
 go_enter Try.func19, Try.ntmps19
 go_wp2_with fail
 refine Calls.mono (crosswayref06_Options.calls k a0 t1 t2 _ A1.out) ?_
 rintro e w3 ⟨v, rfl, ho, hb⟩
 have HO := Aside0.mk (Kd.R_lower ho (below_size (sh_B HB)))
 replace HB := sh_S HB hb
 clear hb ho
 obtain ⟨A, c, e⟩ := Kd.R_slice HO.out
 subst e
 go_wp2
 go_loopg [5, 6] t1.length (fun kq v5 v6 w' => ∃ (out : ByteArray) (i : Nat), v5 = .string out ∧ v6 = .int .i64 (i : Int) ∧ Aside0 (i + kq = t1.length) ∧ Aside0 (crosswayref06_Kept.l (t1.drop i) out = some m) ∧ Aside0 (Kd.R k44 44 w' w.heap.size (fun _ => True) (.slice A t1.length c) t1) ∧ Aside0 (Below w.heap.size w w'))
 case atStart => exact ⟨⟨#[]⟩, 0, rfl, rfl, ⟨Nat.zero_add _⟩, H1, ⟨by (with_reducible repeat (first | apply Kd.R_alloc | apply Kd.R_drewN | apply Kd.R_drew)); exact HO.out⟩, ⟨(sh_B HB)⟩⟩
 case round =>
  clear H1 HO HB
  obtain ⟨out, i, rfl, rfl, HI, HL, HO, HB⟩ := hrel
  have h64 : (i : Int) ≤ 1099511627776 ∧ (0 : Int) ≤ i := by
   have := HZ.out
   have := HI.out
   omega
  by_cases ci : i < t1.length
  · have hL := HL.out
    rw [List.drop_eq_getElem_cons ci, crosswayref06_Kept.l] at hL
    obtain ⟨ad, e, hx0, hx1⟩ := at_T44 (Kd.R_reads' HO.out).2.2 (i : Int) (by omega) (by omega)
    cases e
    have hrd : rd_T44 t1 (i : Int) = t1[i] := by
      unfold rd_T44
      rw [Int.toNat_natCast, List.getD_eq_getElem?_getD, List.getElem?_eq_getElem ci, Option.getD_some]
    rw [hrd] at hx0 hx1
    obtain ⟨o, ho⟩ : ∃ o, t1[i] = o := ⟨_, rfl⟩
    rw [ho] at hL hx0 hx1
    obtain ⟨gk, rfl⟩ : ∃ q, gk = q + 1 := ⟨gk - 1, by have := HI.out; omega⟩
    have hn : wrap64 ((i : Int) + 1) = ((i + 1 : Nat) : Int) := by unfold wrap64; omega
    have hi2 : i + 1 + gk = t1.length := by have := HI.out; omega
    have HI2 := Aside0.mk hi2
    clear HI hi2 HL hrd ho
    obtain ⟨x, hx⟩ : ∃ x : Int, (i : Int) = x := ⟨_, rfl⟩
    rw [hx] at hx0 hx1 hn h64 ⊢
    have cib : decide (x < (t1.length : Int)) = true := decide_eq_true (by omega)
    have p1 : (0 ≤ x) = True := eq_true (by omega)
    have q1 : (x < (t1.length : Int)) = True := eq_true (by omega)
    clear hx ci h64
    by_cases ck : 127 < o.f0
    · rw [if_pos ck] at hL
      by_cases cz : out.size + o.f1.size ≤ 9223372036854775800
      · rw [if_pos cz] at hL
        have ckb : decide (127 < o.f0) = true := decide_eq_true ck
        obtain ⟨sn, hsn⟩ : ∃ sn, strOfNums [o.f0 % 256, wrap64 ((o.f1.size : Int) + 2) % 256] = sn := ⟨_, rfl⟩
        have hz2 : sn.size = 2 := by rw [← hsn]; exact crosswayref06_Kept.size_two _ _
        have hs1 : (9223372036854775807 < out.size + sn.size) = False := eq_false (by omega)
        have hs2 : (9223372036854775807 < (out ++ sn).size + o.f1.size) = False := eq_false (by rw [ByteArray.size_append]; omega)
        have hs3 : decide (out.size + sn.size ≤ 9223372036854775807) = true := decide_eq_true (by omega)
        have hs4 : decide ((out ++ sn).size + o.f1.size ≤ 9223372036854775807) = true := decide_eq_true (by rw [ByteArray.size_append]; omega)
        have hs5 : (9223372036854775807 < out.size + sn.size + o.f1.size) = False := eq_false (by omega)
        have hs6 : decide (out.size + sn.size + o.f1.size ≤ 9223372036854775807) = true := decide_eq_true (by omega)
        rw [hsn] at hL
        clear hz2
        have hcv := fun (W : World) => crosswayref06_Kept.conv_two W 5 (o.f0 % 256) (wrap64 ((o.f1.size : Int) + 2) % 256)
        simp only [hsn] at hcv
        clear ck cz hsn
        go_wp2_with fail
        have HL := Aside0.mk hL
        clear hL
        have hy1 : ∀ b, (wr.alloc b).drew.cell? ⟨(ad.add (x.toNat * 2)).block, (ad.add (x.toNat * 2)).off + 1, none⟩ = some (.string o.f1) := fun b => pw_cell_below (below_drew1 (below_alloc (Below.refl _ _) b)) hx1
        have hy0 : ∀ b, (wr.alloc b).drew.cell? (ad.add (x.toNat * 2)) = some (.int .i64 o.f0) := fun b => pw_cell_below (below_drew1 (below_alloc (Below.refl _ _) b)) hx0
        go_region
        go_wp2
        go_roundg gk
        case measure => omega
        case rel => exact ⟨_, i + 1, rfl, by rw [hn], HI2, HL, ⟨by (with_reducible repeat (first | apply Kd.R_alloc | apply Kd.R_drewN | apply Kd.R_drew)); exact HO.out⟩, ⟨(sh_B HB)⟩⟩
      · rw [if_neg cz] at hL; cases hL
    · rw [if_neg ck] at hL
      have ckb : decide (127 < o.f0) = false := decide_eq_false ck
      clear ck
      have HL := Aside0.mk hL
      clear hL
      go_wp2
      go_roundg gk
      case measure => omega
      case rel => exact ⟨_, i + 1, rfl, by rw [hn], HI2, HL, ⟨by (with_reducible repeat (first | apply Kd.R_alloc | apply Kd.R_drewN | apply Kd.R_drew)); exact HO.out⟩, ⟨(sh_B HB)⟩⟩
  · have hL := HL.out
    rw [List.drop_eq_nil_of_le (by omega), crosswayref06_Kept.l] at hL
    obtain rfl := Option.some.inj hL
    obtain ⟨x, hx⟩ : ∃ x : Int, (i : Int) = x := ⟨_, rfl⟩
    have cib : decide (x < (t1.length : Int)) = false := decide_eq_false (by omega)
    rw [hx]
    clear hL HL HI ci h64 HZ hx
    go_wp2
    go_loopg [5] 4 (fun kq v5 w' => ∃ (out : ByteArray), v5 = .string out ∧ Aside0 (crosswayref06_Kept.p kq out = some r) ∧ Aside0 (Below w.heap.size w w'))
    case atStart => exact ⟨_, rfl, H2, ⟨(sh_B HB)⟩⟩
    case round =>
      clear H2 HB HO
      obtain ⟨o2, rfl, HL, HB⟩ := hrel
      have hL := HL.out
      clear HL
      cases gk with
      | zero => cases hL
      | succ gk =>
        rw [crosswayref06_Kept.p] at hL
        by_cases c1 : 0 < (o2.size : Int) % 4
        · rw [if_pos c1] at hL
          by_cases c2 : o2.size ≤ 9223372036854775800
          · rw [if_pos c2] at hL
            have c1b : decide (0 < (o2.size : Int) % 4) = true := decide_eq_true c1
            have c1c : decide (0 < o2.size % 4) = true := decide_eq_true (by omega)
            have c1e : decide (0 < (o2.size : Int).tmod 4) = true := decide_eq_true (by rw [Int.tmod_eq_emod_of_nonneg (by omega)]; exact c1)
            have c1d : (0 < o2.size % 4) = True := eq_true (by omega)
            have hs1 : (9223372036854775807 < o2.size + (⟨#[0]⟩ : ByteArray).size) = False := eq_false (by have : (⟨#[0]⟩ : ByteArray).size = 1 := rfl; omega)
            have hs2 : (9223372036854775807 < o2.size + 1) = False := eq_false (by omega)
            clear c1 c2
            have HL := Aside0.mk hL
            clear hL
            go_wp2
            go_roundg gk
            case measure => omega
            case rel => exact ⟨_, rfl, HL, ⟨(sh_B HB)⟩⟩
          · rw [if_neg c2] at hL; cases hL
        · rw [if_neg c1] at hL
          obtain rfl := Option.some.inj hL
          have c1b : decide (0 < (o2.size : Int) % 4) = false := decide_eq_false c1
          have c1c : decide (0 < o2.size % 4) = false := decide_eq_false (by omega)
          have c1e : decide (0 < (o2.size : Int).tmod 4) = false := decide_eq_false (by rw [Int.tmod_eq_emod_of_nonneg (by omega)]; exact c1)
          have c1d : (0 < o2.size % 4) = False := eq_false (by omega)
          clear c1 hL
          go_wp2
          go_ret
          exact ⟨rfl, (sh_B HB)⟩

end Go.Proofs.Ytedampcicmaamaa.PBase
