/- Functions of the program as Lean functions, each with a proof that a call comes to what it says. Conditions: those of each theorem. Laid by a program of this session. -/
import Derived.Test.YtefbcigccfkkgaaPBasex0
import Derived.Test.YtefbcigccfkkgaaPBasex7
import Derived.Test.YtefbcigccfkkgaaPBasex8
namespace Go.Proofs.Ytefbcigccfkkgaa.PBase
open Go.RowKit Go.Proofs.Ytefbcigccfkkgaa Go.Proofs.YtefbcigccfkkgaaW.PrintWords Go.Proofs.YtefbcigccfkkgaaW.PrintLast Go.Proofs.YtefbcigccfkkgaaW.PrintMore
attribute [local go_sem] max2_int min2_int max_two min_two max_three min_three max_four min_four   -- for this text's walks alone
set_option linter.unusedVariables false
set_option linter.unusedSimpArgs false

/-! ### crosswayref03_Class: function 54 -/
mutual
def crosswayref03_Class.j0 : Nat → List Int → Int → Bool → Bool → Int → Int → Option (Int)
 | 0, _, _, _, _, _, _ => none
 | k + 1, x3, x4, x16, x192000, x192001, x192002 => if x16 = true then (some 0) else (if x192001 = 0 then (crosswayref03_Class.j1 k x3 x4 (x192002 == 1)) else (crosswayref03_Class.j1 k x3 x4 false))
def crosswayref03_Class.j1 : Nat → List Int → Int → Bool → Option (Int)
 | 0, _, _, _ => none
 | k + 1, x3, x4, x25 => if x25 = true then (some 1) else (if x4 = 254 then (if 1 < (x3.length : Int) then (crosswayref03_Class.j2 k x4 (((Int.tdiv (rd x3 1) 64) % 256) == 2)) else (none)) else (crosswayref03_Class.j2 k x4 false))
def crosswayref03_Class.j2 : Nat → Int → Bool → Option (Int)
 | 0, _, _ => none
 | k + 1, x4, x34 => if x34 = true then (some 2) else (if x4 = 255 then (some 3) else (some 5))
def crosswayref03_Class.j3 : Nat → Int → Bool → Bool → Int → Int → Option (Int)
 | 0, _, _, _, _, _ => none
 | k + 1, x4, x54, x192000, x192001, x192002 => if x54 = true then (some 2) else (if x192002 = 4294967295 then (some 4) else (if (wrap64 (Int.tdiv x4 16)) = 14 then (some 3) else (some 5)))
end
def crosswayref03_Class.f (k : Nat) (a0_0 : Bool) (a0_1 : Int) (a0_2 : Int) : Option (Int) := (crosswayref03_Valid.f a0_0 a0_1 a0_2).bind fun t192 => (if t192 = true then ((crosswayref03_Bytes.f k a0_0 a0_1 a0_2).bind fun t193 => (if 0 < (t193.length : Int) then (if a0_0 = true then (if a0_1 = 0 then (crosswayref03_Class.j0 k t193 (wrap64 (rd t193 0)) (a0_2 == 0) a0_0 a0_1 a0_2) else (crosswayref03_Class.j0 k t193 (wrap64 (rd t193 0)) false a0_0 a0_1 a0_2)) else (if a0_2 = 0 then (some 0) else (if (wrap64 (rd t193 0)) = 127 then (some 1) else (if (wrap64 (rd t193 0)) = 169 then (if 1 < (t193.length : Int) then (crosswayref03_Class.j3 k (wrap64 (rd t193 0)) ((rd t193 1) == 254) a0_0 a0_1 a0_2) else (none)) else (crosswayref03_Class.j3 k (wrap64 (rd t193 0)) false a0_0 a0_1 a0_2))))) else (none))) else (some (-1)))
theorem crosswayref03_Class.mono_l : ∀ k, (∀ y0 y1 y2 y3 y4 y5, LeO (crosswayref03_Class.j0 k y0 y1 y2 y3 y4 y5) (crosswayref03_Class.j0 (k + 1) y0 y1 y2 y3 y4 y5)) ∧ (∀ y0 y1 y2, LeO (crosswayref03_Class.j1 k y0 y1 y2) (crosswayref03_Class.j1 (k + 1) y0 y1 y2)) ∧ (∀ y0 y1, LeO (crosswayref03_Class.j2 k y0 y1) (crosswayref03_Class.j2 (k + 1) y0 y1)) ∧ (∀ y0 y1 y2 y3 y4, LeO (crosswayref03_Class.j3 k y0 y1 y2 y3 y4) (crosswayref03_Class.j3 (k + 1) y0 y1 y2 y3 y4))
 | 0 => ⟨fun _ _ _ _ _ _ r h => by simp [crosswayref03_Class.j0] at h, fun _ _ _ r h => by simp [crosswayref03_Class.j1] at h, fun _ _ r h => by simp [crosswayref03_Class.j2] at h, fun _ _ _ _ _ r h => by simp [crosswayref03_Class.j3] at h⟩
 | k + 1 => by
  obtain ⟨ih0, ih1, ih2, ih3⟩ := crosswayref03_Class.mono_l k
  refine ⟨?_, ?_, ?_, ?_⟩
  ·
   intro y0 y1 y2 y3 y4 y5
   unfold crosswayref03_Class.j0
   repeat' first
   | (with_reducible exact ih0 _ _ _ _ _ _)
   | (with_reducible exact ih1 _ _ _)
   | (with_reducible exact ih2 _ _)
   | (with_reducible exact ih3 _ _ _ _ _)
   | (with_reducible exact crosswayref03_Bytes.mono _ _ _ _)
   | (with_reducible exact LeO.refl _)
   | (with_reducible exact LeO.none _)
   | (with_reducible refine LeO.ite ?_ ?_)
   | (with_reducible refine LeO.bind ?_ (fun _ => ?_))
   | exact ih0 _ _ _ _ _ _
   | exact ih1 _ _ _
   | exact ih2 _ _
   | exact ih3 _ _ _ _ _
   | exact crosswayref03_Bytes.mono _ _ _ _
   | exact LeO.none _
   | refine LeO.ite ?_ ?_
   | refine LeO.bind ?_ (fun _ => ?_)
  ·
   intro y0 y1 y2
   unfold crosswayref03_Class.j1
   repeat' first
   | (with_reducible exact ih0 _ _ _ _ _ _)
   | (with_reducible exact ih1 _ _ _)
   | (with_reducible exact ih2 _ _)
   | (with_reducible exact ih3 _ _ _ _ _)
   | (with_reducible exact crosswayref03_Bytes.mono _ _ _ _)
   | (with_reducible exact LeO.refl _)
   | (with_reducible exact LeO.none _)
   | (with_reducible refine LeO.ite ?_ ?_)
   | (with_reducible refine LeO.bind ?_ (fun _ => ?_))
   | exact ih0 _ _ _ _ _ _
   | exact ih1 _ _ _
   | exact ih2 _ _
   | exact ih3 _ _ _ _ _
   | exact crosswayref03_Bytes.mono _ _ _ _
   | exact LeO.none _
   | refine LeO.ite ?_ ?_
   | refine LeO.bind ?_ (fun _ => ?_)
  ·
   intro y0 y1
   unfold crosswayref03_Class.j2
   repeat' first
   | (with_reducible exact ih0 _ _ _ _ _ _)
   | (with_reducible exact ih1 _ _ _)
   | (with_reducible exact ih2 _ _)
   | (with_reducible exact ih3 _ _ _ _ _)
   | (with_reducible exact crosswayref03_Bytes.mono _ _ _ _)
   | (with_reducible exact LeO.refl _)
   | (with_reducible exact LeO.none _)
   | (with_reducible refine LeO.ite ?_ ?_)
   | (with_reducible refine LeO.bind ?_ (fun _ => ?_))
   | exact ih0 _ _ _ _ _ _
   | exact ih1 _ _ _
   | exact ih2 _ _
   | exact ih3 _ _ _ _ _
   | exact crosswayref03_Bytes.mono _ _ _ _
   | exact LeO.none _
   | refine LeO.ite ?_ ?_
   | refine LeO.bind ?_ (fun _ => ?_)
  ·
   intro y0 y1 y2 y3 y4
   unfold crosswayref03_Class.j3
   repeat' first
   | (with_reducible exact ih0 _ _ _ _ _ _)
   | (with_reducible exact ih1 _ _ _)
   | (with_reducible exact ih2 _ _)
   | (with_reducible exact ih3 _ _ _ _ _)
   | (with_reducible exact crosswayref03_Bytes.mono _ _ _ _)
   | (with_reducible exact LeO.refl _)
   | (with_reducible exact LeO.none _)
   | (with_reducible refine LeO.ite ?_ ?_)
   | (with_reducible refine LeO.bind ?_ (fun _ => ?_))
   | exact ih0 _ _ _ _ _ _
   | exact ih1 _ _ _
   | exact ih2 _ _
   | exact ih3 _ _ _ _ _
   | exact crosswayref03_Bytes.mono _ _ _ _
   | exact LeO.none _
   | refine LeO.ite ?_ ?_
   | refine LeO.bind ?_ (fun _ => ?_)
theorem crosswayref03_Class.mono : ∀ a0 a1 a2 k, LeO (crosswayref03_Class.f k a0 a1 a2) (crosswayref03_Class.f (k + 1) a0 a1 a2) := by
 intro a0 a1 a2 k
 obtain ⟨ih0, ih1, ih2, ih3⟩ := crosswayref03_Class.mono_l k
 unfold crosswayref03_Class.f
 repeat' first
   | (with_reducible exact ih0 _ _ _ _ _ _)
   | (with_reducible exact ih1 _ _ _)
   | (with_reducible exact ih2 _ _)
   | (with_reducible exact ih3 _ _ _ _ _)
   | (with_reducible exact crosswayref03_Bytes.mono _ _ _ _)
   | (with_reducible exact LeO.refl _)
   | (with_reducible exact LeO.none _)
   | (with_reducible refine LeO.ite ?_ ?_)
   | (with_reducible refine LeO.bind ?_ (fun _ => ?_))
   | exact ih0 _ _ _ _ _ _
   | exact ih1 _ _ _
   | exact ih2 _ _
   | exact ih3 _ _ _ _ _
   | exact crosswayref03_Bytes.mono _ _ _ _
   | exact LeO.none _
   | refine LeO.ite ?_ ?_
   | refine LeO.bind ?_ (fun _ => ?_)
set_option maxHeartbeats 8000000 in
set_option maxRecDepth 100000 in
theorem crosswayref03_Class.calls (k : Nat) (a0_0 : Bool) (a0_1 : Int) (a0_2 : Int) (r : Int) (w : World) (h : crosswayref03_Class.f k a0_0 a0_1 a0_2 = some r) :
  Calls Try.prog 54 #[.agg #[.bool a0_0, .int .u64 a0_1, .int .u64 a0_2]] w fun e w' => e = .returned (.int .i64 r) ∧ Below w.heap.size w w' := by
 have hu25 := Try.underlying25
 have HB := Aside0.mk (Below.refl w.heap.size w)
 have H : ((crosswayref03_Valid.f a0_0 a0_1 a0_2).bind fun t192 => (if t192 = true then ((crosswayref03_Bytes.f k a0_0 a0_1 a0_2).bind fun t193 => (if 0 < (t193.length : Int) then (if a0_0 = true then (if a0_1 = 0 then (crosswayref03_Class.j0 k t193 (wrap64 (rd t193 0)) (a0_2 == 0) a0_0 a0_1 a0_2) else (crosswayref03_Class.j0 k t193 (wrap64 (rd t193 0)) false a0_0 a0_1 a0_2)) else (if a0_2 = 0 then (some 0) else (if (wrap64 (rd t193 0)) = 127 then (some 1) else (if (wrap64 (rd t193 0)) = 169 then (if 1 < (t193.length : Int) then (crosswayref03_Class.j3 k (wrap64 (rd t193 0)) ((rd t193 1) == 254) a0_0 a0_1 a0_2) else (none)) else (crosswayref03_Class.j3 k (wrap64 (rd t193 0)) false a0_0 a0_1 a0_2))))) else (none))) else (some (-1)))) = some r := h
 clear h
 replace H := Option.bind_eq_some_iff.mp H
 obtain ⟨t192, A20, H⟩ := H
 have A2 := Aside0.mk A20
 clear A20
 by_cases c3 : t192 = true
 ·
  subst c3
  rw [if_pos rfl] at H
  replace H := Option.bind_eq_some_iff.mp H
  obtain ⟨t193, A40, H⟩ := H
  have A4 := Aside0.mk A40
  clear A40
  by_cases c5 : 0 < (t193.length : Int)
  ·
   rw [if_pos c5] at H
   have c5b0 : decide (0 < (t193.length : Int)) = true := decide_eq_true c5
   have c5b1 : decide (0 < t193.length) = true := decide_eq_true (by omega)
   clear c5
   by_cases c6 : a0_0 = true
   ·
    subst c6
    rw [if_pos rfl] at H
    have HC7 := Aside0.mk H
    clear H
    go_enter Try.func54, Try.ntmps54
    go_upto_region 6 with (first | ((with_reducible refine gate_dst (N := 1) rfl ?_); refine sh_E 1 25 #[.bool true, .int .u64 a0_1, .int .u64 a0_2] ?_; intro gb191 hg w8 hbox hb; have BK191 := Aside0.mk hbox; have GW191 := sh_G HB hg; have GE191 := GW191; replace HB := sh_S HB hb; clear hb hbox hg; obtain ⟨hcz9_0, hcz9_1, hcz9_2⟩ := MBlk.c3 BK191.out; obtain ⟨hfz9_0, hfz9_1, hfz9_2⟩ := MBlk.f3 BK191.out) | ((with_reducible refine gate_callee (f := 56) rfl ?_); refine sh_C 6 Try.func56 #[.agg #[.bool true, .int .u64 a0_1, .int .u64 a0_2]] ?_; (with_reducible refine (crosswayref03_Valid.calls true a0_1 a0_2 true _ A2.out).mono ?_); rintro e w10 ⟨rfl, hb⟩; refine ⟨_, rfl, ?_⟩; replace BK191 := sh_L BK191 hb; replace HB := sh_S HB hb; (try clear hb); (try clear hb2); (try clear hk); (try clear hi); obtain ⟨hcz11_0, hcz11_1, hcz11_2⟩ := MBlk.c3 BK191.out; obtain ⟨hfz11_0, hfz11_1, hfz11_2⟩ := MBlk.f3 BK191.out) | ((with_reducible refine gate_callee (f := 63) rfl ?_); refine sh_C 9 Try.func63 #[.agg #[.bool true, .int .u64 a0_1, .int .u64 a0_2]] ?_; (with_reducible refine (crosswayref03_Bytes.calls k true a0_1 a0_2 t193 _ A4.out).mono ?_); rintro e w12 ⟨v194, rfl, ho0, hb⟩; refine ⟨_, rfl, ?_⟩; have HO195 := Aside0.mk (Kd.R_lower ho0 (below_size (sh_B HB))); replace BK191 := sh_L BK191 hb; replace HB := sh_S HB hb; (try clear hb); (try clear hb2); (try clear hk); (try clear hi); (try clear ho0); obtain ⟨Ao13, co13, eo13⟩ := Kd.R_slice HO195.out; subst eo13; have p196 : 0 ≤ (0 : Int) := (by omega); have q196 : 0 < (t193.length : Int) := of_decide_eq_true (by first | (with_reducible assumption) | assumption); obtain ⟨ad196, e196, hx196_0⟩ := Kd.at_int (Kd.R_reads' HO195.out).2.2 0 p196 q196; cases e196; have qi196 : (0 < t193.length) = True := eq_true (by omega); (try rw [show ((0 : Int)).toNat = 0 from rfl] at hx196_0); (try rw [Addr.add_zero'] at hx196_0); replace p196 := eq_true p196; replace q196 := eq_true q196; obtain ⟨hcz14_0, hcz14_1, hcz14_2⟩ := MBlk.c3 BK191.out; obtain ⟨hfz14_0, hfz14_1, hfz14_2⟩ := MBlk.f3 BK191.out))
    (try simp only [Act.put, List.setIfInBounds_toArray, List.set_cons_zero, List.set_cons_succ])
    go_cut [16] (fun v16 wc => ∃ (kq : Nat) (x16_6 : Bool), v16 = .bool x16_6 ∧ Aside0 (crosswayref03_Class.j0 kq t193 (wrap64 (rd t193 0)) x16_6 true a0_1 a0_2 = some r) ∧ Aside0 (kq ≤ k) ∧ Aside0 (Kd.R (Kd.int .u8) 5 wc w.heap.size (fun _ => True) (.slice (some ad196) t193.length co13) t193) ∧ Aside0 (wc.heap[gb191]? = some (.cells #[.bool true, .int .u64 a0_1, .int .u64 a0_2] 25 (0, 0))) ∧ Aside0 (Below w.heap.size w wc))
    case first =>
     have H := HC7.out
     clear HC7
     by_cases c15 : a0_1 = 0
     ·
      rw [if_pos c15] at H
      have c15b0 : (a0_1 == 0) = true := beq_iff_eq.mpr c15
      have c15b1 : (a0_1 != 0) = false := bne_eq_false_iff_eq.mpr c15
      clear c15
      (first | rw [c15b0] | (simp only [i64_w, i32_w]; rw [c15b0]) | skip)
      have H' := Aside0.mk H
      clear H
      have hcz16_0 : w12.cell? ⟨gb191, 0, none⟩ = some (.bool true) := (blk_cell BK191.out 0).trans rfl
      have hcz16_1 : w12.cell? ⟨gb191, 1, none⟩ = some (.int .u64 a0_1) := (blk_cell BK191.out 1).trans rfl
      have hcz16_2 : w12.cell? ⟨gb191, 2, none⟩ = some (.int .u64 a0_2) := (blk_cell BK191.out 2).trans rfl
      have hfz16_0 := blk_frozen BK191.out 0
      have hfz16_1 := blk_frozen BK191.out 1
      have hfz16_2 := blk_frozen BK191.out 2
      go_wp2
      go_meet
      case rel => exact ⟨_, ((a0_2 == 0)), (by first | rfl | (simp; done) | (simp [*]; done)), H', ⟨by first | omega | exact Nat.le_refl _⟩, ⟨by (with_reducible repeat (first | apply Kd.R_alloc | apply Kd.R_drewN | apply Kd.R_drew)); exact HO195.out⟩, ⟨by (with_reducible repeat (first | refine blk_drewN ?_ _ | refine blk_drew ?_ | refine blk_alloc ?_ _)); exact BK191.out⟩, ⟨by repeat (first | (with_reducible first | exact HB.out | apply below_alloc | apply pw_below_drewN | apply below_drew1 | refine below_set ?_ GE191.out) | exact HB.out)⟩⟩
     ·
      rw [if_neg c15] at H
      have c15b0 : (a0_1 == 0) = false := beq_eq_false_iff_ne.mpr c15
      have c15b1 : (a0_1 != 0) = true := bne_iff_ne.mpr c15
      (first | rw [c15b0] | (simp only [i64_w, i32_w]; rw [c15b0]) | skip)
      have H' := Aside0.mk H
      clear H
      have hcz17_0 : w12.cell? ⟨gb191, 0, none⟩ = some (.bool true) := (blk_cell BK191.out 0).trans rfl
      have hcz17_1 : w12.cell? ⟨gb191, 1, none⟩ = some (.int .u64 a0_1) := (blk_cell BK191.out 1).trans rfl
      have hcz17_2 : w12.cell? ⟨gb191, 2, none⟩ = some (.int .u64 a0_2) := (blk_cell BK191.out 2).trans rfl
      have hfz17_0 := blk_frozen BK191.out 0
      have hfz17_1 := blk_frozen BK191.out 1
      have hfz17_2 := blk_frozen BK191.out 2
      go_wp2
      go_meet
      case rel => exact ⟨_, (false), (by first | rfl | (simp; done) | (simp [*]; done)), H', ⟨by first | omega | exact Nat.le_refl _⟩, ⟨by (with_reducible repeat (first | apply Kd.R_alloc | apply Kd.R_drewN | apply Kd.R_drew)); exact HO195.out⟩, ⟨by (with_reducible repeat (first | refine blk_drewN ?_ _ | refine blk_drew ?_ | refine blk_alloc ?_ _)); exact BK191.out⟩, ⟨by repeat (first | (with_reducible first | exact HB.out | apply below_alloc | apply pw_below_drewN | apply below_drew1 | refine below_set ?_ GE191.out) | exact HB.out)⟩⟩
    case rest =>
     clear HC7
     try clear c1
     try clear p1
     try clear q1
     try clear hx1
     try clear qi1
     try clear p2
     try clear c3
     try clear c5
     try clear c5b0
     try clear c5b1
     try clear c6
     try clear p6
     try clear c15
     try clear c15b0
     try clear c15b1
     try clear hcz11_0
     try clear hcz11_1
     try clear hcz11_2
     try clear hcz14_0
     try clear hcz14_1
     try clear hcz14_2
     try clear hcz16_0
     try clear hcz16_1
     try clear hcz16_2
     try clear hcz17_0
     try clear hcz17_1
     try clear hcz17_2
     try clear hcz9_0
     try clear hcz9_1
     try clear hcz9_2
     try clear hfz11_0
     try clear hfz11_1
     try clear hfz11_2
     try clear hfz14_0
     try clear hfz14_1
     try clear hfz14_2
     try clear hfz16_0
     try clear hfz16_1
     try clear hfz16_2
     try clear hfz17_0
     try clear hfz17_1
     try clear hfz17_2
     try clear hfz9_0
     try clear hfz9_1
     try clear hfz9_2
     try clear hx196_0
     try clear p196
     try clear q196
     obtain ⟨kq, x16_6, rfl, HA, HJ6, HO_3, BK191, HB⟩ := hcut
     cases kq with
     | zero => exact absurd HA.out (by simp [crosswayref03_Class.j0])
     | succ kj6 =>
      have H := HA.out
      clear HA
      simp only [crosswayref03_Class.j0] at H
      by_cases c18 : x16_6 = true
      ·
       subst c18
       rw [if_pos rfl] at H
       obtain rfl := Option.some.inj H
       go_wp2
       go_ret
       exact ⟨by first | rfl | (simp [errW_none, errW_some] <;> rfl) | (simp [*, errW_none, errW_some] <;> rfl), by repeat (first | (with_reducible first | exact HB.out | apply below_alloc | apply pw_below_drewN | apply below_drew1 | refine below_set ?_ GE191.out) | exact HB.out)⟩
      ·
       replace c18 := Bool.eq_false_iff.mpr c18
       subst c18
       rw [if_neg (show ¬ (false = true) by decide)] at H
       have HC19 := Aside0.mk H
       clear H
       go_upto_region 8 with (fail)
       go_cut [25] (fun v25 wc => ∃ (kq : Nat) (x25_18 : Bool), v25 = .bool x25_18 ∧ Aside0 (crosswayref03_Class.j1 kq t193 (wrap64 (rd t193 0)) x25_18 = some r) ∧ Aside0 (kq ≤ kj6) ∧ Aside0 (Kd.R (Kd.int .u8) 5 wc w.heap.size (fun _ => True) (.slice (some ad196) t193.length co13) t193) ∧ Aside0 (wc.heap[gb191]? = some (.cells #[.bool true, .int .u64 a0_1, .int .u64 a0_2] 25 (0, 0))) ∧ Aside0 (Below w.heap.size w wc))
       case first =>
        have H := HC19.out
        clear HC19
        by_cases c20 : a0_1 = 0
        ·
         rw [if_pos c20] at H
         have c20b0 : (a0_1 == 0) = true := beq_iff_eq.mpr c20
         have c20b1 : (a0_1 != 0) = false := bne_eq_false_iff_eq.mpr c20
         clear c20
         (first | rw [c20b0] | (simp only [i64_w, i32_w]; rw [c20b0]) | skip)
         have H' := Aside0.mk H
         clear H
         have hcz21_0 : wc.cell? ⟨gb191, 0, none⟩ = some (.bool true) := (blk_cell BK191.out 0).trans rfl
         have hcz21_1 : wc.cell? ⟨gb191, 1, none⟩ = some (.int .u64 a0_1) := (blk_cell BK191.out 1).trans rfl
         have hcz21_2 : wc.cell? ⟨gb191, 2, none⟩ = some (.int .u64 a0_2) := (blk_cell BK191.out 2).trans rfl
         have hfz21_0 := blk_frozen BK191.out 0
         have hfz21_1 := blk_frozen BK191.out 1
         have hfz21_2 := blk_frozen BK191.out 2
         go_wp2
         go_meet
         case rel => exact ⟨_, ((a0_2 == 1)), (by first | rfl | (simp; done) | (simp [*]; done)), H', ⟨by have := HJ6.out; first | omega | exact Nat.le_refl _⟩, ⟨by (with_reducible repeat (first | apply Kd.R_alloc | apply Kd.R_drewN | apply Kd.R_drew)); exact HO_3.out⟩, ⟨by (with_reducible repeat (first | refine blk_drewN ?_ _ | refine blk_drew ?_ | refine blk_alloc ?_ _)); exact BK191.out⟩, ⟨by repeat (first | (with_reducible first | exact HB.out | apply below_alloc | apply pw_below_drewN | apply below_drew1 | refine below_set ?_ GE191.out) | exact HB.out)⟩⟩
        ·
         rw [if_neg c20] at H
         have c20b0 : (a0_1 == 0) = false := beq_eq_false_iff_ne.mpr c20
         have c20b1 : (a0_1 != 0) = true := bne_iff_ne.mpr c20
         (first | rw [c20b0] | (simp only [i64_w, i32_w]; rw [c20b0]) | skip)
         have H' := Aside0.mk H
         clear H
         have hcz22_0 : wc.cell? ⟨gb191, 0, none⟩ = some (.bool true) := (blk_cell BK191.out 0).trans rfl
         have hcz22_1 : wc.cell? ⟨gb191, 1, none⟩ = some (.int .u64 a0_1) := (blk_cell BK191.out 1).trans rfl
         have hcz22_2 : wc.cell? ⟨gb191, 2, none⟩ = some (.int .u64 a0_2) := (blk_cell BK191.out 2).trans rfl
         have hfz22_0 := blk_frozen BK191.out 0
         have hfz22_1 := blk_frozen BK191.out 1
         have hfz22_2 := blk_frozen BK191.out 2
         go_wp2
         go_meet
         case rel => exact ⟨_, (false), (by first | rfl | (simp; done) | (simp [*]; done)), H', ⟨by have := HJ6.out; first | omega | exact Nat.le_refl _⟩, ⟨by (with_reducible repeat (first | apply Kd.R_alloc | apply Kd.R_drewN | apply Kd.R_drew)); exact HO_3.out⟩, ⟨by (with_reducible repeat (first | refine blk_drewN ?_ _ | refine blk_drew ?_ | refine blk_alloc ?_ _)); exact BK191.out⟩, ⟨by repeat (first | (with_reducible first | exact HB.out | apply below_alloc | apply pw_below_drewN | apply below_drew1 | refine below_set ?_ GE191.out) | exact HB.out)⟩⟩
       case rest =>
        clear HC19
        try clear c1
        try clear p1
        try clear q1
        try clear hx1
        try clear qi1
        try clear c2
        try clear p2
        try clear c3
        try clear c5
        try clear c5b0
        try clear c5b1
        try clear c6
        try clear p6
        try clear c15
        try clear c15b0
        try clear c15b1
        try clear c18
        try clear p19
        try clear q19
        try clear hx19
        try clear qi19
        try clear c20
        try clear c20b0
        try clear c20b1
        try clear hcz11_0
        try clear hcz11_1
        try clear hcz11_2
        try clear hcz14_0
        try clear hcz14_1
        try clear hcz14_2
        try clear hcz16_0
        try clear hcz16_1
        try clear hcz16_2
        try clear hcz17_0
        try clear hcz17_1
        try clear hcz17_2
        try clear hcz21_0
        try clear hcz21_1
        try clear hcz21_2
        try clear hcz22_0
        try clear hcz22_1
        try clear hcz22_2
        try clear hcz9_0
        try clear hcz9_1
        try clear hcz9_2
        try clear hfz11_0
        try clear hfz11_1
        try clear hfz11_2
        try clear hfz14_0
        try clear hfz14_1
        try clear hfz14_2
        try clear hfz16_0
        try clear hfz16_1
        try clear hfz16_2
        try clear hfz17_0
        try clear hfz17_1
        try clear hfz17_2
        try clear hfz21_0
        try clear hfz21_1
        try clear hfz21_2
        try clear hfz22_0
        try clear hfz22_1
        try clear hfz22_2
        try clear hfz9_0
        try clear hfz9_1
        try clear hfz9_2
        try clear hx196_0
        try clear p1
        try clear p196
        try clear p2
        try clear p6
        try clear q1
        try clear q196
        obtain ⟨kq, x25_18, rfl, HA, HJ18, HO_3, BK191, HB⟩ := hcut
        cases kq with
        | zero => exact absurd HA.out (by simp [crosswayref03_Class.j1])
        | succ kj18 =>
         have H := HA.out
         clear HA
         simp only [crosswayref03_Class.j1] at H
         by_cases c23 : x25_18 = true
         ·
          subst c23
          rw [if_pos rfl] at H
          obtain rfl := Option.some.inj H
          go_wp2
          go_ret
          exact ⟨by first | rfl | (simp [errW_none, errW_some] <;> rfl) | (simp [*, errW_none, errW_some] <;> rfl), by repeat (first | (with_reducible first | exact HB.out | apply below_alloc | apply pw_below_drewN | apply below_drew1 | refine below_set ?_ GE191.out) | exact HB.out)⟩
         ·
          replace c23 := Bool.eq_false_iff.mpr c23
          subst c23
          rw [if_neg (show ¬ (false = true) by decide)] at H
          have HC24 := Aside0.mk H
          clear H
          go_upto_region 10 with (fail)
          go_cut [34] (fun v34 wc => ∃ (kq : Nat) (x34_23 : Bool), v34 = .bool x34_23 ∧ Aside0 (crosswayref03_Class.j2 kq (wrap64 (rd t193 0)) x34_23 = some r) ∧ Aside0 (kq ≤ kj18) ∧ Aside0 (wc.heap[gb191]? = some (.cells #[.bool true, .int .u64 a0_1, .int .u64 a0_2] 25 (0, 0))) ∧ Aside0 (Below w.heap.size w wc))
          case first =>
           have H := HC24.out
           clear HC24
           by_cases c25 : (wrap64 (rd t193 0)) = 254
           ·
            rw [if_pos c25] at H
            have c25b0 : ((wrap64 (rd t193 0)) == 254) = true := beq_iff_eq.mpr c25
            have c25b1 : ((wrap64 (rd t193 0)) != 254) = false := bne_eq_false_iff_eq.mpr c25
            clear c25
            (first | rw [c25b0] | (simp only [i64_w, i32_w]; rw [c25b0]) | skip)
            by_cases c26 : 1 < (t193.length : Int)
            ·
             rw [if_pos c26] at H
             have c26b0 : decide (1 < (t193.length : Int)) = true := decide_eq_true c26
             have c26b1 : decide (1 < t193.length) = true := decide_eq_true (by omega)
             clear c26
             have H' := Aside0.mk H
             clear H
             have p197 : 0 ≤ (1 : Int) := (by omega)
             have q197 : 1 < (t193.length : Int) := of_decide_eq_true (by first | (with_reducible assumption) | assumption)
             obtain ⟨ad197, e197, hx197_0⟩ := Kd.at_int (Kd.R_reads' HO_3.out).2.2 1 p197 q197
             obtain rfl : ad196 = ad197 := (by injection e197)
             (try simp only [show (1 : Int).toNat = 1 from rfl, Nat.reduceMul, Nat.reduceEqDiff, Go.Addr.add, ↓reduceIte] at hx197_0)
             have qi197 : (1 < t193.length) = True := eq_true (by omega)
             (try rw [show ((1 : Int)).toNat = 1 from rfl] at hx197_0)
             replace p197 := eq_true p197
             replace q197 := eq_true q197
             go_wp2
             go_meet
             case rel => exact ⟨_, ((((Int.tdiv (rd t193 1) 64) % 256) == 2)), (by first | rfl | (simp; done) | (simp [*]; done)), H', ⟨by have := HJ6.out; have := HJ18.out; first | omega | exact Nat.le_refl _⟩, ⟨by (with_reducible repeat (first | refine blk_drewN ?_ _ | refine blk_drew ?_ | refine blk_alloc ?_ _)); exact BK191.out⟩, ⟨by repeat (first | (with_reducible first | exact HB.out | apply below_alloc | apply pw_below_drewN | apply below_drew1 | refine below_set ?_ GE191.out) | exact HB.out)⟩⟩
            ·
             rw [if_neg c26] at H
             exact absurd H (by simp)
           ·
            rw [if_neg c25] at H
            have c25b0 : ((wrap64 (rd t193 0)) == 254) = false := beq_eq_false_iff_ne.mpr c25
            have c25b1 : ((wrap64 (rd t193 0)) != 254) = true := bne_iff_ne.mpr c25
            (first | rw [c25b0] | (simp only [i64_w, i32_w]; rw [c25b0]) | skip)
            have H' := Aside0.mk H
            clear H
            go_wp2
            go_meet
            case rel => exact ⟨_, (false), (by first | rfl | (simp; done) | (simp [*]; done)), H', ⟨by have := HJ6.out; have := HJ18.out; first | omega | exact Nat.le_refl _⟩, ⟨by (with_reducible repeat (first | refine blk_drewN ?_ _ | refine blk_drew ?_ | refine blk_alloc ?_ _)); exact BK191.out⟩, ⟨by repeat (first | (with_reducible first | exact HB.out | apply below_alloc | apply pw_below_drewN | apply below_drew1 | refine below_set ?_ GE191.out) | exact HB.out)⟩⟩
          case rest =>
           clear HC24
           try clear c1
           try clear p1
           try clear q1
           try clear hx1
           try clear qi1
           try clear c2
           try clear p2
           try clear c3
           try clear c5
           try clear c5b0
           try clear c5b1
           try clear c6
           try clear p6
           try clear c15
           try clear c15b0
           try clear c15b1
           try clear c18
           try clear p19
           try clear q19
           try clear hx19
           try clear qi19
           try clear c20
           try clear c20b0
           try clear c20b1
           try clear c23
           try clear c25
           try clear c25b0
           try clear c25b1
           try clear c26
           try clear c26b0
           try clear c26b1
           try clear hcz11_0
           try clear hcz11_1
           try clear hcz11_2
           try clear hcz14_0
           try clear hcz14_1
           try clear hcz14_2
           try clear hcz16_0
           try clear hcz16_1
           try clear hcz16_2
           try clear hcz17_0
           try clear hcz17_1
           try clear hcz17_2
           try clear hcz21_0
           try clear hcz21_1
           try clear hcz21_2
           try clear hcz22_0
           try clear hcz22_1
           try clear hcz22_2
           try clear hcz9_0
           try clear hcz9_1
           try clear hcz9_2
           try clear hfz11_0
           try clear hfz11_1
           try clear hfz11_2
           try clear hfz14_0
           try clear hfz14_1
           try clear hfz14_2
           try clear hfz16_0
           try clear hfz16_1
           try clear hfz16_2
           try clear hfz17_0
           try clear hfz17_1
           try clear hfz17_2
           try clear hfz21_0
           try clear hfz21_1
           try clear hfz21_2
           try clear hfz22_0
           try clear hfz22_1
           try clear hfz22_2
           try clear hfz9_0
           try clear hfz9_1
           try clear hfz9_2
           try clear hx196_0
           try clear hx197_0
           try clear p1
           try clear p19
           try clear p196
           try clear p197
           try clear p2
           try clear p6
           try clear q1
           try clear q19
           try clear q196
           try clear q197
           obtain ⟨kq, x34_23, rfl, HA, HJ23, BK191, HB⟩ := hcut
           cases kq with
           | zero => exact absurd HA.out (by simp [crosswayref03_Class.j2])
           | succ kj23 =>
            have H := HA.out
            clear HA
            simp only [crosswayref03_Class.j2] at H
            by_cases c27 : x34_23 = true
            ·
             subst c27
             rw [if_pos rfl] at H
             obtain rfl := Option.some.inj H
             go_wp2
             go_ret
             exact ⟨by first | rfl | (simp [errW_none, errW_some] <;> rfl) | (simp [*, errW_none, errW_some] <;> rfl), by repeat (first | (with_reducible first | exact HB.out | apply below_alloc | apply pw_below_drewN | apply below_drew1 | refine below_set ?_ GE191.out) | exact HB.out)⟩
            ·
             replace c27 := Bool.eq_false_iff.mpr c27
             subst c27
             rw [if_neg (show ¬ (false = true) by decide)] at H
             by_cases c28 : (wrap64 (rd t193 0)) = 255
             ·
              rw [if_pos c28] at H
              have c28b0 : ((wrap64 (rd t193 0)) == 255) = true := beq_iff_eq.mpr c28
              have c28b1 : ((wrap64 (rd t193 0)) != 255) = false := bne_eq_false_iff_eq.mpr c28
              clear c28
              obtain rfl := Option.some.inj H
              go_wp2
              go_ret
              exact ⟨by first | rfl | (simp [errW_none, errW_some] <;> rfl) | (simp [*, errW_none, errW_some] <;> rfl), by repeat (first | (with_reducible first | exact HB.out | apply below_alloc | apply pw_below_drewN | apply below_drew1 | refine below_set ?_ GE191.out) | exact HB.out)⟩
             ·
              rw [if_neg c28] at H
              have c28b0 : ((wrap64 (rd t193 0)) == 255) = false := beq_eq_false_iff_ne.mpr c28
              have c28b1 : ((wrap64 (rd t193 0)) != 255) = true := bne_iff_ne.mpr c28
              obtain rfl := Option.some.inj H
              go_wp2
              go_ret
              exact ⟨by first | rfl | (simp [errW_none, errW_some] <;> rfl) | (simp [*, errW_none, errW_some] <;> rfl), by repeat (first | (with_reducible first | exact HB.out | apply below_alloc | apply pw_below_drewN | apply below_drew1 | refine below_set ?_ GE191.out) | exact HB.out)⟩
   ·
    replace c6 := Bool.eq_false_iff.mpr c6
    subst c6
    rw [if_neg (show ¬ (false = true) by decide)] at H
    by_cases c29 : a0_2 = 0
    ·
     rw [if_pos c29] at H
     have c29b0 : (a0_2 == 0) = true := beq_iff_eq.mpr c29
     have c29b1 : (a0_2 != 0) = false := bne_eq_false_iff_eq.mpr c29
     clear c29
     obtain rfl := Option.some.inj H
     go_enter Try.func54, Try.ntmps54
     go_wp2_with (first | ((with_reducible refine gate_dst (N := 1) rfl ?_); refine sh_E 1 25 #[.bool false, .int .u64 a0_1, .int .u64 a0_2] ?_; intro gb191 hg w30 hbox hb; have BK191 := Aside0.mk hbox; have GW191 := sh_G HB hg; have GE191 := GW191; replace HB := sh_S HB hb; clear hb hbox hg; obtain ⟨hcz31_0, hcz31_1, hcz31_2⟩ := MBlk.c3 BK191.out; obtain ⟨hfz31_0, hfz31_1, hfz31_2⟩ := MBlk.f3 BK191.out) | ((with_reducible refine gate_callee (f := 56) rfl ?_); refine sh_C 6 Try.func56 #[.agg #[.bool false, .int .u64 a0_1, .int .u64 a0_2]] ?_; (with_reducible refine (crosswayref03_Valid.calls false a0_1 a0_2 true _ A2.out).mono ?_); rintro e w32 ⟨rfl, hb⟩; refine ⟨_, rfl, ?_⟩; replace BK191 := sh_L BK191 hb; replace HB := sh_S HB hb; (try clear hb); (try clear hb2); (try clear hk); (try clear hi); obtain ⟨hcz33_0, hcz33_1, hcz33_2⟩ := MBlk.c3 BK191.out; obtain ⟨hfz33_0, hfz33_1, hfz33_2⟩ := MBlk.f3 BK191.out) | ((with_reducible refine gate_callee (f := 63) rfl ?_); refine sh_C 9 Try.func63 #[.agg #[.bool false, .int .u64 a0_1, .int .u64 a0_2]] ?_; (with_reducible refine (crosswayref03_Bytes.calls k false a0_1 a0_2 t193 _ A4.out).mono ?_); rintro e w34 ⟨v194, rfl, ho0, hb⟩; refine ⟨_, rfl, ?_⟩; have HO195 := Aside0.mk (Kd.R_lower ho0 (below_size (sh_B HB))); replace BK191 := sh_L BK191 hb; replace HB := sh_S HB hb; (try clear hb); (try clear hb2); (try clear hk); (try clear hi); (try clear ho0); obtain ⟨Ao35, co35, eo35⟩ := Kd.R_slice HO195.out; subst eo35; have p196 : 0 ≤ (0 : Int) := (by omega); have q196 : 0 < (t193.length : Int) := of_decide_eq_true (by first | (with_reducible assumption) | assumption); obtain ⟨ad196, e196, hx196_0⟩ := Kd.at_int (Kd.R_reads' HO195.out).2.2 0 p196 q196; cases e196; have qi196 : (0 < t193.length) = True := eq_true (by omega); (try rw [show ((0 : Int)).toNat = 0 from rfl] at hx196_0); (try rw [Addr.add_zero'] at hx196_0); replace p196 := eq_true p196; replace q196 := eq_true q196; obtain ⟨hcz36_0, hcz36_1, hcz36_2⟩ := MBlk.c3 BK191.out; obtain ⟨hfz36_0, hfz36_1, hfz36_2⟩ := MBlk.f3 BK191.out))
     go_ret
     exact ⟨by first | rfl | (simp [errW_none, errW_some] <;> rfl) | (simp [*, errW_none, errW_some] <;> rfl), by repeat (first | (with_reducible first | exact HB.out | apply below_alloc | apply pw_below_drewN | apply below_drew1 | refine below_set ?_ GE191.out) | exact HB.out)⟩
    ·
     rw [if_neg c29] at H
     have c29b0 : (a0_2 == 0) = false := beq_eq_false_iff_ne.mpr c29
     have c29b1 : (a0_2 != 0) = true := bne_iff_ne.mpr c29
     by_cases c37 : (wrap64 (rd t193 0)) = 127
     ·
      rw [if_pos c37] at H
      have c37b0 : ((wrap64 (rd t193 0)) == 127) = true := beq_iff_eq.mpr c37
      have c37b1 : ((wrap64 (rd t193 0)) != 127) = false := bne_eq_false_iff_eq.mpr c37
      clear c37
      obtain rfl := Option.some.inj H
      go_enter Try.func54, Try.ntmps54
      go_wp2_with (first | ((with_reducible refine gate_dst (N := 1) rfl ?_); refine sh_E 1 25 #[.bool false, .int .u64 a0_1, .int .u64 a0_2] ?_; intro gb191 hg w38 hbox hb; have BK191 := Aside0.mk hbox; have GW191 := sh_G HB hg; have GE191 := GW191; replace HB := sh_S HB hb; clear hb hbox hg; obtain ⟨hcz39_0, hcz39_1, hcz39_2⟩ := MBlk.c3 BK191.out; obtain ⟨hfz39_0, hfz39_1, hfz39_2⟩ := MBlk.f3 BK191.out) | ((with_reducible refine gate_callee (f := 56) rfl ?_); refine sh_C 6 Try.func56 #[.agg #[.bool false, .int .u64 a0_1, .int .u64 a0_2]] ?_; (with_reducible refine (crosswayref03_Valid.calls false a0_1 a0_2 true _ A2.out).mono ?_); rintro e w40 ⟨rfl, hb⟩; refine ⟨_, rfl, ?_⟩; replace BK191 := sh_L BK191 hb; replace HB := sh_S HB hb; (try clear hb); (try clear hb2); (try clear hk); (try clear hi); obtain ⟨hcz41_0, hcz41_1, hcz41_2⟩ := MBlk.c3 BK191.out; obtain ⟨hfz41_0, hfz41_1, hfz41_2⟩ := MBlk.f3 BK191.out) | ((with_reducible refine gate_callee (f := 63) rfl ?_); refine sh_C 9 Try.func63 #[.agg #[.bool false, .int .u64 a0_1, .int .u64 a0_2]] ?_; (with_reducible refine (crosswayref03_Bytes.calls k false a0_1 a0_2 t193 _ A4.out).mono ?_); rintro e w42 ⟨v194, rfl, ho0, hb⟩; refine ⟨_, rfl, ?_⟩; have HO195 := Aside0.mk (Kd.R_lower ho0 (below_size (sh_B HB))); replace BK191 := sh_L BK191 hb; replace HB := sh_S HB hb; (try clear hb); (try clear hb2); (try clear hk); (try clear hi); (try clear ho0); obtain ⟨Ao43, co43, eo43⟩ := Kd.R_slice HO195.out; subst eo43; have p196 : 0 ≤ (0 : Int) := (by omega); have q196 : 0 < (t193.length : Int) := of_decide_eq_true (by first | (with_reducible assumption) | assumption); obtain ⟨ad196, e196, hx196_0⟩ := Kd.at_int (Kd.R_reads' HO195.out).2.2 0 p196 q196; cases e196; have qi196 : (0 < t193.length) = True := eq_true (by omega); (try rw [show ((0 : Int)).toNat = 0 from rfl] at hx196_0); (try rw [Addr.add_zero'] at hx196_0); replace p196 := eq_true p196; replace q196 := eq_true q196; obtain ⟨hcz44_0, hcz44_1, hcz44_2⟩ := MBlk.c3 BK191.out; obtain ⟨hfz44_0, hfz44_1, hfz44_2⟩ := MBlk.f3 BK191.out))
      go_ret
      exact ⟨by first | rfl | (simp [errW_none, errW_some] <;> rfl) | (simp [*, errW_none, errW_some] <;> rfl), by repeat (first | (with_reducible first | exact HB.out | apply below_alloc | apply pw_below_drewN | apply below_drew1 | refine below_set ?_ GE191.out) | exact HB.out)⟩
     ·
      rw [if_neg c37] at H
      have c37b0 : ((wrap64 (rd t193 0)) == 127) = false := beq_eq_false_iff_ne.mpr c37
      have c37b1 : ((wrap64 (rd t193 0)) != 127) = true := bne_iff_ne.mpr c37
      have HC45 := Aside0.mk H
      clear H
      go_enter Try.func54, Try.ntmps54
      go_upto_region 19 with (first | ((with_reducible refine gate_dst (N := 1) rfl ?_); refine sh_E 1 25 #[.bool false, .int .u64 a0_1, .int .u64 a0_2] ?_; intro gb191 hg w46 hbox hb; have BK191 := Aside0.mk hbox; have GW191 := sh_G HB hg; have GE191 := GW191; replace HB := sh_S HB hb; clear hb hbox hg; obtain ⟨hcz47_0, hcz47_1, hcz47_2⟩ := MBlk.c3 BK191.out; obtain ⟨hfz47_0, hfz47_1, hfz47_2⟩ := MBlk.f3 BK191.out) | ((with_reducible refine gate_callee (f := 56) rfl ?_); refine sh_C 6 Try.func56 #[.agg #[.bool false, .int .u64 a0_1, .int .u64 a0_2]] ?_; (with_reducible refine (crosswayref03_Valid.calls false a0_1 a0_2 true _ A2.out).mono ?_); rintro e w48 ⟨rfl, hb⟩; refine ⟨_, rfl, ?_⟩; replace BK191 := sh_L BK191 hb; replace HB := sh_S HB hb; (try clear hb); (try clear hb2); (try clear hk); (try clear hi); obtain ⟨hcz49_0, hcz49_1, hcz49_2⟩ := MBlk.c3 BK191.out; obtain ⟨hfz49_0, hfz49_1, hfz49_2⟩ := MBlk.f3 BK191.out) | ((with_reducible refine gate_callee (f := 63) rfl ?_); refine sh_C 9 Try.func63 #[.agg #[.bool false, .int .u64 a0_1, .int .u64 a0_2]] ?_; (with_reducible refine (crosswayref03_Bytes.calls k false a0_1 a0_2 t193 _ A4.out).mono ?_); rintro e w50 ⟨v194, rfl, ho0, hb⟩; refine ⟨_, rfl, ?_⟩; have HO195 := Aside0.mk (Kd.R_lower ho0 (below_size (sh_B HB))); replace BK191 := sh_L BK191 hb; replace HB := sh_S HB hb; (try clear hb); (try clear hb2); (try clear hk); (try clear hi); (try clear ho0); obtain ⟨Ao51, co51, eo51⟩ := Kd.R_slice HO195.out; subst eo51; have p196 : 0 ≤ (0 : Int) := (by omega); have q196 : 0 < (t193.length : Int) := of_decide_eq_true (by first | (with_reducible assumption) | assumption); obtain ⟨ad196, e196, hx196_0⟩ := Kd.at_int (Kd.R_reads' HO195.out).2.2 0 p196 q196; cases e196; have qi196 : (0 < t193.length) = True := eq_true (by omega); (try rw [show ((0 : Int)).toNat = 0 from rfl] at hx196_0); (try rw [Addr.add_zero'] at hx196_0); replace p196 := eq_true p196; replace q196 := eq_true q196; obtain ⟨hcz52_0, hcz52_1, hcz52_2⟩ := MBlk.c3 BK191.out; obtain ⟨hfz52_0, hfz52_1, hfz52_2⟩ := MBlk.f3 BK191.out))
      (try simp only [Act.put, List.setIfInBounds_toArray, List.set_cons_zero, List.set_cons_succ])
      go_cut [54] (fun v54 wc => ∃ (kq : Nat) (x54_44 : Bool), v54 = .bool x54_44 ∧ Aside0 (crosswayref03_Class.j3 kq (wrap64 (rd t193 0)) x54_44 false a0_1 a0_2 = some r) ∧ Aside0 (kq ≤ k) ∧ Aside0 (wc.heap[gb191]? = some (.cells #[.bool false, .int .u64 a0_1, .int .u64 a0_2] 25 (0, 0))) ∧ Aside0 (Below w.heap.size w wc))
      case first =>
       have H := HC45.out
       clear HC45
       by_cases c53 : (wrap64 (rd t193 0)) = 169
       ·
        rw [if_pos c53] at H
        have c53b0 : ((wrap64 (rd t193 0)) == 169) = true := beq_iff_eq.mpr c53
        have c53b1 : ((wrap64 (rd t193 0)) != 169) = false := bne_eq_false_iff_eq.mpr c53
        clear c53
        (first | rw [c53b0] | (simp only [i64_w, i32_w]; rw [c53b0]) | skip)
        by_cases c54 : 1 < (t193.length : Int)
        ·
         rw [if_pos c54] at H
         have c54b0 : decide (1 < (t193.length : Int)) = true := decide_eq_true c54
         have c54b1 : decide (1 < t193.length) = true := decide_eq_true (by omega)
         clear c54
         have H' := Aside0.mk H
         clear H
         have p198 : 0 ≤ (1 : Int) := (by omega)
         have q198 : 1 < (t193.length : Int) := of_decide_eq_true (by first | (with_reducible assumption) | assumption)
         obtain ⟨ad198, e198, hx198_0⟩ := Kd.at_int (Kd.R_reads' HO195.out).2.2 1 p198 q198
         obtain rfl : ad196 = ad198 := (by injection e198)
         (try simp only [show (1 : Int).toNat = 1 from rfl, Nat.reduceMul, Nat.reduceEqDiff, Go.Addr.add, ↓reduceIte] at hx198_0)
         have qi198 : (1 < t193.length) = True := eq_true (by omega)
         (try rw [show ((1 : Int)).toNat = 1 from rfl] at hx198_0)
         replace p198 := eq_true p198
         replace q198 := eq_true q198
         go_wp2
         go_meet
         case rel => exact ⟨_, (((rd t193 1) == 254)), (by first | rfl | (simp; done) | (simp [*]; done)), H', ⟨by first | omega | exact Nat.le_refl _⟩, ⟨by (with_reducible repeat (first | refine blk_drewN ?_ _ | refine blk_drew ?_ | refine blk_alloc ?_ _)); exact BK191.out⟩, ⟨by repeat (first | (with_reducible first | exact HB.out | apply below_alloc | apply pw_below_drewN | apply below_drew1 | refine below_set ?_ GE191.out) | exact HB.out)⟩⟩
        ·
         rw [if_neg c54] at H
         exact absurd H (by simp)
       ·
        rw [if_neg c53] at H
        have c53b0 : ((wrap64 (rd t193 0)) == 169) = false := beq_eq_false_iff_ne.mpr c53
        have c53b1 : ((wrap64 (rd t193 0)) != 169) = true := bne_iff_ne.mpr c53
        (first | rw [c53b0] | (simp only [i64_w, i32_w]; rw [c53b0]) | skip)
        have H' := Aside0.mk H
        clear H
        go_wp2
        go_meet
        case rel => exact ⟨_, (false), (by first | rfl | (simp; done) | (simp [*]; done)), H', ⟨by first | omega | exact Nat.le_refl _⟩, ⟨by (with_reducible repeat (first | refine blk_drewN ?_ _ | refine blk_drew ?_ | refine blk_alloc ?_ _)); exact BK191.out⟩, ⟨by repeat (first | (with_reducible first | exact HB.out | apply below_alloc | apply pw_below_drewN | apply below_drew1 | refine below_set ?_ GE191.out) | exact HB.out)⟩⟩
      case rest =>
       clear HC45
       try clear c1
       try clear p1
       try clear q1
       try clear hx1
       try clear qi1
       try clear c2
       try clear p2
       try clear c3
       try clear c5
       try clear c5b0
       try clear c5b1
       try clear c6
       try clear p6
       try clear c15
       try clear c15b0
       try clear c15b1
       try clear c18
       try clear p19
       try clear q19
       try clear hx19
       try clear qi19
       try clear c20
       try clear c20b0
       try clear c20b1
       try clear c23
       try clear c25
       try clear c25b0
       try clear c25b1
       try clear c26
       try clear c26b0
       try clear c26b1
       try clear c27
       try clear c28
       try clear c28b0
       try clear c28b1
       try clear c29
       try clear c29b0
       try clear c29b1
       try clear c37
       try clear c37b0
       try clear c37b1
       try clear c53
       try clear c53b0
       try clear c53b1
       try clear c54
       try clear c54b0
       try clear c54b1
       try clear hcz11_0
       try clear hcz11_1
       try clear hcz11_2
       try clear hcz14_0
       try clear hcz14_1
       try clear hcz14_2
       try clear hcz16_0
       try clear hcz16_1
       try clear hcz16_2
       try clear hcz17_0
       try clear hcz17_1
       try clear hcz17_2
       try clear hcz21_0
       try clear hcz21_1
       try clear hcz21_2
       try clear hcz22_0
       try clear hcz22_1
       try clear hcz22_2
       try clear hcz31_0
       try clear hcz31_1
       try clear hcz31_2
       try clear hcz33_0
       try clear hcz33_1
       try clear hcz33_2
       try clear hcz36_0
       try clear hcz36_1
       try clear hcz36_2
       try clear hcz39_0
       try clear hcz39_1
       try clear hcz39_2
       try clear hcz41_0
       try clear hcz41_1
       try clear hcz41_2
       try clear hcz44_0
       try clear hcz44_1
       try clear hcz44_2
       try clear hcz47_0
       try clear hcz47_1
       try clear hcz47_2
       try clear hcz49_0
       try clear hcz49_1
       try clear hcz49_2
       try clear hcz52_0
       try clear hcz52_1
       try clear hcz52_2
       try clear hcz9_0
       try clear hcz9_1
       try clear hcz9_2
       try clear hfz11_0
       try clear hfz11_1
       try clear hfz11_2
       try clear hfz14_0
       try clear hfz14_1
       try clear hfz14_2
       try clear hfz16_0
       try clear hfz16_1
       try clear hfz16_2
       try clear hfz17_0
       try clear hfz17_1
       try clear hfz17_2
       try clear hfz21_0
       try clear hfz21_1
       try clear hfz21_2
       try clear hfz22_0
       try clear hfz22_1
       try clear hfz22_2
       try clear hfz31_0
       try clear hfz31_1
       try clear hfz31_2
       try clear hfz33_0
       try clear hfz33_1
       try clear hfz33_2
       try clear hfz36_0
       try clear hfz36_1
       try clear hfz36_2
       try clear hfz39_0
       try clear hfz39_1
       try clear hfz39_2
       try clear hfz41_0
       try clear hfz41_1
       try clear hfz41_2
       try clear hfz44_0
       try clear hfz44_1
       try clear hfz44_2
       try clear hfz47_0
       try clear hfz47_1
       try clear hfz47_2
       try clear hfz49_0
       try clear hfz49_1
       try clear hfz49_2
       try clear hfz52_0
       try clear hfz52_1
       try clear hfz52_2
       try clear hfz9_0
       try clear hfz9_1
       try clear hfz9_2
       try clear hx196_0
       try clear hx197_0
       try clear hx198_0
       try clear p1
       try clear p19
       try clear p196
       try clear p197
       try clear p198
       try clear p2
       try clear p6
       try clear q1
       try clear q19
       try clear q196
       try clear q197
       try clear q198
       obtain ⟨kq, x54_44, rfl, HA, HJ44, BK191, HB⟩ := hcut
       cases kq with
       | zero => exact absurd HA.out (by simp [crosswayref03_Class.j3])
       | succ kj44 =>
        have H := HA.out
        clear HA
        simp only [crosswayref03_Class.j3] at H
        by_cases c55 : x54_44 = true
        ·
         subst c55
         rw [if_pos rfl] at H
         obtain rfl := Option.some.inj H
         go_wp2
         go_ret
         exact ⟨by first | rfl | (simp [errW_none, errW_some] <;> rfl) | (simp [*, errW_none, errW_some] <;> rfl), by repeat (first | (with_reducible first | exact HB.out | apply below_alloc | apply pw_below_drewN | apply below_drew1 | refine below_set ?_ GE191.out) | exact HB.out)⟩
        ·
         replace c55 := Bool.eq_false_iff.mpr c55
         subst c55
         rw [if_neg (show ¬ (false = true) by decide)] at H
         by_cases c56 : a0_2 = 4294967295
         ·
          rw [if_pos c56] at H
          have c56b0 : (a0_2 == 4294967295) = true := beq_iff_eq.mpr c56
          have c56b1 : (a0_2 != 4294967295) = false := bne_eq_false_iff_eq.mpr c56
          clear c56
          obtain rfl := Option.some.inj H
          have hcz57_0 : wc.cell? ⟨gb191, 0, none⟩ = some (.bool false) := (blk_cell BK191.out 0).trans rfl
          have hcz57_1 : wc.cell? ⟨gb191, 1, none⟩ = some (.int .u64 a0_1) := (blk_cell BK191.out 1).trans rfl
          have hcz57_2 : wc.cell? ⟨gb191, 2, none⟩ = some (.int .u64 a0_2) := (blk_cell BK191.out 2).trans rfl
          have hfz57_0 := blk_frozen BK191.out 0
          have hfz57_1 := blk_frozen BK191.out 1
          have hfz57_2 := blk_frozen BK191.out 2
          go_wp2
          go_ret
          exact ⟨by first | rfl | (simp [errW_none, errW_some] <;> rfl) | (simp [*, errW_none, errW_some] <;> rfl), by repeat (first | (with_reducible first | exact HB.out | apply below_alloc | apply pw_below_drewN | apply below_drew1 | refine below_set ?_ GE191.out) | exact HB.out)⟩
         ·
          rw [if_neg c56] at H
          have c56b0 : (a0_2 == 4294967295) = false := beq_eq_false_iff_ne.mpr c56
          have c56b1 : (a0_2 != 4294967295) = true := bne_iff_ne.mpr c56
          by_cases c58 : (wrap64 (Int.tdiv (wrap64 (rd t193 0)) 16)) = 14
          ·
           rw [if_pos c58] at H
           have c58b0 : ((wrap64 (Int.tdiv (wrap64 (rd t193 0)) 16)) == 14) = true := beq_iff_eq.mpr c58
           have c58b1 : ((wrap64 (Int.tdiv (wrap64 (rd t193 0)) 16)) != 14) = false := bne_eq_false_iff_eq.mpr c58
           clear c58
           obtain rfl := Option.some.inj H
           have hcz59_0 : wc.cell? ⟨gb191, 0, none⟩ = some (.bool false) := (blk_cell BK191.out 0).trans rfl
           have hcz59_1 : wc.cell? ⟨gb191, 1, none⟩ = some (.int .u64 a0_1) := (blk_cell BK191.out 1).trans rfl
           have hcz59_2 : wc.cell? ⟨gb191, 2, none⟩ = some (.int .u64 a0_2) := (blk_cell BK191.out 2).trans rfl
           have hfz59_0 := blk_frozen BK191.out 0
           have hfz59_1 := blk_frozen BK191.out 1
           have hfz59_2 := blk_frozen BK191.out 2
           go_wp2
           go_ret
           exact ⟨by first | rfl | (simp [errW_none, errW_some] <;> rfl) | (simp [*, errW_none, errW_some] <;> rfl), by repeat (first | (with_reducible first | exact HB.out | apply below_alloc | apply pw_below_drewN | apply below_drew1 | refine below_set ?_ GE191.out) | exact HB.out)⟩
          ·
           rw [if_neg c58] at H
           have c58b0 : ((wrap64 (Int.tdiv (wrap64 (rd t193 0)) 16)) == 14) = false := beq_eq_false_iff_ne.mpr c58
           have c58b1 : ((wrap64 (Int.tdiv (wrap64 (rd t193 0)) 16)) != 14) = true := bne_iff_ne.mpr c58
           obtain rfl := Option.some.inj H
           have hcz60_0 : wc.cell? ⟨gb191, 0, none⟩ = some (.bool false) := (blk_cell BK191.out 0).trans rfl
           have hcz60_1 : wc.cell? ⟨gb191, 1, none⟩ = some (.int .u64 a0_1) := (blk_cell BK191.out 1).trans rfl
           have hcz60_2 : wc.cell? ⟨gb191, 2, none⟩ = some (.int .u64 a0_2) := (blk_cell BK191.out 2).trans rfl
           have hfz60_0 := blk_frozen BK191.out 0
           have hfz60_1 := blk_frozen BK191.out 1
           have hfz60_2 := blk_frozen BK191.out 2
           go_wp2
           go_ret
           exact ⟨by first | rfl | (simp [errW_none, errW_some] <;> rfl) | (simp [*, errW_none, errW_some] <;> rfl), by repeat (first | (with_reducible first | exact HB.out | apply below_alloc | apply pw_below_drewN | apply below_drew1 | refine below_set ?_ GE191.out) | exact HB.out)⟩
  ·
   rw [if_neg c5] at H
   exact absurd H (by simp)
 ·
  replace c3 := Bool.eq_false_iff.mpr c3
  subst c3
  rw [if_neg (show ¬ (false = true) by decide)] at H
  obtain rfl := Option.some.inj H
  go_enter Try.func54, Try.ntmps54
  go_wp2_with (first | ((with_reducible refine gate_dst (N := 1) rfl ?_); refine sh_E 1 25 #[.bool a0_0, .int .u64 a0_1, .int .u64 a0_2] ?_; intro gb191 hg w61 hbox hb; have BK191 := Aside0.mk hbox; have GW191 := sh_G HB hg; have GE191 := GW191; replace HB := sh_S HB hb; clear hb hbox hg; obtain ⟨hcz62_0, hcz62_1, hcz62_2⟩ := MBlk.c3 BK191.out; obtain ⟨hfz62_0, hfz62_1, hfz62_2⟩ := MBlk.f3 BK191.out) | ((with_reducible refine gate_callee (f := 56) rfl ?_); refine sh_C 6 Try.func56 #[.agg #[.bool a0_0, .int .u64 a0_1, .int .u64 a0_2]] ?_; (with_reducible refine (crosswayref03_Valid.calls a0_0 a0_1 a0_2 false _ A2.out).mono ?_); rintro e w63 ⟨rfl, hb⟩; refine ⟨_, rfl, ?_⟩; replace BK191 := sh_L BK191 hb; replace HB := sh_S HB hb; (try clear hb); (try clear hb2); (try clear hk); (try clear hi)))
  go_ret
  exact ⟨by first | rfl | (simp [errW_none, errW_some] <;> rfl) | (simp [*, errW_none, errW_some] <;> rfl), by repeat (first | (with_reducible first | exact HB.out | apply below_alloc | apply pw_below_drewN | apply below_drew1 | refine below_set ?_ GE191.out) | exact HB.out)⟩

end Go.Proofs.Ytefbcigccfkkgaa.PBase
