/- Functions of the program as Lean functions, each with a proof that a call comes to what it says. Conditions: those of each theorem. Laid by a program of this session. -/
import Derived.Test.YtkpncagfhiceoaaPBasex0
import Derived.Test.YtkpncagfhiceoaaPBasex6
import Derived.Test.YtkpncagfhiceoaaPBasex7
namespace Go.Proofs.Ytkpncagfhiceoaa.PBase
open Go.RowKit Go.Proofs.Ytkpncagfhiceoaa Go.Proofs.YtkpncagfhiceoaaW.PrintWords Go.Proofs.YtkpncagfhiceoaaW.PrintLast Go.Proofs.YtkpncagfhiceoaaW.PrintMore
attribute [local go_sem] max2_int min2_int max_two min_two max_three min_three max_four min_four   -- for this text's walks alone
set_option linter.unusedVariables false
set_option linter.unusedSimpArgs false

/-! ### addr_Of: function 30 -/
mutual
def addr_Of.j0 : Nat → List Int → Bool → Bool → Int → Int → Option (Bool × Int × Int × Int)
 | 0, _, _, _, _, _ => none
 | k + 1, x0, x18, x124000, x124001, x124002 => if x18 = true then (some (false, 0, 0, 20)) else (addr_Of.l0 k x0 (x0.length : Int) 0 x124000 x124001 x124002)
def addr_Of.l0 : Nat → List Int → Int → Int → Bool → Int → Int → Option (Bool × Int × Int × Int)
 | 0, _, _, _, _, _, _ => none
 | k + 1, x20, x21, x22, x124000, x124001, x124002 => if x22 < x21 then (if 0 ≤ x22 then (if x22 < (x20.length : Int) then (if x124000 = true then (if x22 < 8 then (addr_Of.l0 k x20 x21 (wrap64 (x22 + 1)) x124000 (Go.bits .or .u64 (IntKind.u64.wrap (x124001 * 256)) (IntKind.u64.wrap (rd x20 x22))) x124002) else (addr_Of.l0 k x20 x21 (wrap64 (x22 + 1)) x124000 x124001 (Go.bits .or .u64 (IntKind.u64.wrap (x124002 * 256)) (IntKind.u64.wrap (rd x20 x22))))) else (addr_Of.l0 k x20 x21 (wrap64 (x22 + 1)) x124000 x124001 (Go.bits .or .u64 (IntKind.u64.wrap (x124002 * 256)) (IntKind.u64.wrap (rd x20 x22))))) else (none)) else (none)) else (some (x124000, x124001, x124002, 0))
end
def addr_Of.f (k : Nat) (l0 : List Int) : Option (Bool × Int × Int × Int) := if (l0.length : Int) = 4 then (addr_Of.j0 k l0 false ((l0.length : Int) == 16) 0 0) else (addr_Of.j0 k l0 ((l0.length : Int) != 16) ((l0.length : Int) == 16) 0 0)
theorem addr_Of.mono_l : ∀ k, (∀ y0 y1 y2 y3 y4, LeO (addr_Of.j0 k y0 y1 y2 y3 y4) (addr_Of.j0 (k + 1) y0 y1 y2 y3 y4)) ∧ (∀ y0 y1 y2 y3 y4 y5, LeO (addr_Of.l0 k y0 y1 y2 y3 y4 y5) (addr_Of.l0 (k + 1) y0 y1 y2 y3 y4 y5))
 | 0 => ⟨fun _ _ _ _ _ r h => by simp [addr_Of.j0] at h, fun _ _ _ _ _ _ r h => by simp [addr_Of.l0] at h⟩
 | k + 1 => by
  obtain ⟨ih0, ih1⟩ := addr_Of.mono_l k
  refine ⟨?_, ?_⟩
  ·
   intro y0 y1 y2 y3 y4
   unfold addr_Of.j0
   repeat' first
   | (with_reducible exact ih0 _ _ _ _ _)
   | (with_reducible exact ih1 _ _ _ _ _ _)
   | (with_reducible exact LeO.refl _)
   | (with_reducible exact LeO.none _)
   | (with_reducible refine LeO.ite ?_ ?_)
   | (with_reducible refine LeO.bind ?_ (fun _ => ?_))
   | exact ih0 _ _ _ _ _
   | exact ih1 _ _ _ _ _ _
   | exact LeO.none _
   | refine LeO.ite ?_ ?_
   | refine LeO.bind ?_ (fun _ => ?_)
  ·
   intro y0 y1 y2 y3 y4 y5
   unfold addr_Of.l0
   repeat' first
   | (with_reducible exact ih0 _ _ _ _ _)
   | (with_reducible exact ih1 _ _ _ _ _ _)
   | (with_reducible exact LeO.refl _)
   | (with_reducible exact LeO.none _)
   | (with_reducible refine LeO.ite ?_ ?_)
   | (with_reducible refine LeO.bind ?_ (fun _ => ?_))
   | exact ih0 _ _ _ _ _
   | exact ih1 _ _ _ _ _ _
   | exact LeO.none _
   | refine LeO.ite ?_ ?_
   | refine LeO.bind ?_ (fun _ => ?_)
theorem addr_Of.mono : ∀ a0 k, LeO (addr_Of.f k a0) (addr_Of.f (k + 1) a0) := by
 intro a0 k
 obtain ⟨ih0, ih1⟩ := addr_Of.mono_l k
 unfold addr_Of.f
 repeat' first
   | (with_reducible exact ih0 _ _ _ _ _)
   | (with_reducible exact ih1 _ _ _ _ _ _)
   | (with_reducible exact LeO.refl _)
   | (with_reducible exact LeO.none _)
   | (with_reducible refine LeO.ite ?_ ?_)
   | (with_reducible refine LeO.bind ?_ (fun _ => ?_))
   | exact ih0 _ _ _ _ _
   | exact ih1 _ _ _ _ _ _
   | exact LeO.none _
   | refine LeO.ite ?_ ?_
   | refine LeO.bind ?_ (fun _ => ?_)
set_option maxHeartbeats 8000000 in
set_option maxRecDepth 100000 in
theorem addr_Of.calls (k : Nat) (A0 : Option Addr) (c0 : Nat) (l0 : List Int) (r1 : Bool) (r2 : Int) (r3 : Int) (r4 : Int) (w : World) (hr0 : Kd.C (Kd.int .u8) w A0 l0.length l0) (hc0 : l0.length ≤ c0) (h : addr_Of.f k l0 = some (r1, r2, r3, r4)) :
  Calls Try.prog 30 #[.slice A0 l0.length c0] w fun e w' => e = .returned (.tuple #[.agg #[.bool r1, .int .u64 r2, .int .u64 r3], .int .i64 r4]) ∧ Below w.heap.size w w' := by
 have hu24 := Try.underlying24
 have HR0 := Aside0.mk hr0
 have HC0 := Aside0.mk hc0
 clear hr0 hc0
 have HB := Aside0.mk (Below.refl w.heap.size w)
 have H : (if (l0.length : Int) = 4 then (addr_Of.j0 k l0 false ((l0.length : Int) == 16) 0 0) else (addr_Of.j0 k l0 ((l0.length : Int) != 16) ((l0.length : Int) == 16) 0 0)) = some (r1, r2, r3, r4) := h
 clear h
 have HC2 := Aside0.mk H
 clear H
 go_enter Try.func30, Try.ntmps30
 go_upto_region 2 with (first | ((with_reducible refine gate_dst (N := 2) rfl ?_); (try (refine gate_guard (by rfl) ?_; dsimp only)); refine box_event ?hg (N := 2) ?hd (cs := #[.bool false, .int .u64 0, .int .u64 0]) (t := 24) ?hr ?_; (case hd => rfl); (case hg => rfl); (case hr => first | (go_simp; done) | (go_simp; rfl)); intro gb122 hg w3 hbox hb; have n0_ := Aside0.mk (below_step (by repeat (first | (with_reducible first | exact HB.out | apply below_alloc | apply pw_below_drewN | apply below_drew1) | exact HB.out)) hb); have n1_ := Aside0.mk (hbox); have n2_ := Aside0.mk ((by rw [hg]; exact (below_size (by repeat (first | (with_reducible first | exact HB.out | apply below_alloc | apply pw_below_drewN | apply below_drew1) | exact HB.out))) : w.heap.size ≤ gb122)); have n3_ := Aside0.mk ((by rw [hg]; exact (below_size (by repeat (first | (with_reducible first | exact HB.out | apply below_alloc | apply pw_below_drewN | apply below_drew1) | exact HB.out))) : w.heap.size ≤ gb122)); clear HB; have HB := n0_; have BK122 := n1_; have GW122 := n2_; have GE122 := n3_; clear n0_ n1_ n2_ n3_; clear hb hbox hg) | ((with_reducible refine gate_dst (N := 4) rfl ?_); (try (refine gate_guard (by rfl) ?_; dsimp only)); refine box_event ?hg (N := 4) ?hd (cs := #[.bool false, .int .u64 0, .int .u64 0]) (t := 24) ?hr ?_; (case hd => rfl); (case hg => rfl); (case hr => first | (go_simp; done) | (go_simp; rfl)); intro gb123 hg w4 hbox hb; have n0_ := Aside0.mk (blk_below (g := gb122) (o := .cells #[.bool false, .int .u64 0, .int .u64 0] 24 (0, 0)) (by (with_reducible repeat (first | refine blk_drewN ?_ _ | refine blk_drew ?_ | refine blk_alloc ?_ _)); exact BK122.out) hb); have n1_ := Aside0.mk (below_step (by repeat (first | (with_reducible first | exact HB.out | apply below_alloc | apply pw_below_drewN | apply below_drew1 | refine below_set ?_ GE122.out) | exact HB.out)) hb); have n2_ := Aside0.mk (hbox); have n3_ := Aside0.mk ((by rw [hg]; exact (below_size (by repeat (first | (with_reducible first | exact HB.out | apply below_alloc | apply pw_below_drewN | apply below_drew1 | refine below_set ?_ GE122.out) | exact HB.out))) : w.heap.size ≤ gb123)); have n4_ := Aside0.mk ((by rw [hg]; exact (below_size (by repeat (first | (with_reducible first | exact HB.out | apply below_alloc | apply pw_below_drewN | apply below_drew1 | refine below_set ?_ GE122.out) | exact HB.out))) : w.heap.size ≤ gb123)); have n5_ := Aside0.mk ((by rw [hg]; exact Nat.ne_of_lt (blk_lt (g := gb122) (o := .cells #[.bool false, .int .u64 0, .int .u64 0] 24 (0, 0)) (by (with_reducible repeat (first | refine blk_drewN ?_ _ | refine blk_drew ?_ | refine blk_alloc ?_ _)); exact BK122.out)) : gb122 ≠ gb123)); have n6_ := Aside0.mk ((by rw [hg]; exact Nat.ne_of_gt (blk_lt (g := gb122) (o := .cells #[.bool false, .int .u64 0, .int .u64 0] 24 (0, 0)) (by (with_reducible repeat (first | refine blk_drewN ?_ _ | refine blk_drew ?_ | refine blk_alloc ?_ _)); exact BK122.out)) : gb123 ≠ gb122)); clear BK122; clear HB; have BK122 := n0_; have HB := n1_; have BK123 := n2_; have GW123 := n3_; have GE123 := n4_; have NB122_123 := n5_; have NB123_122 := n6_; clear n0_ n1_ n2_ n3_ n4_ n5_ n6_; clear hb hbox hg; have hnb5 := NB123_122.out; have hnc5 := NB122_123.out; obtain ⟨hcz6_0, hcz6_1, hcz6_2⟩ := MBlk.c3 BK123.out; obtain ⟨hfz6_0, hfz6_1, hfz6_2⟩ := MBlk.f3 BK123.out))
 (try simp only [Act.put, List.setIfInBounds_toArray, List.set_cons_zero, List.set_cons_succ])
 go_cut [18] (fun v18 wc => ∃ (kq : Nat) (x18_1 : Bool), v18 = .bool x18_1 ∧ Aside0 (addr_Of.j0 kq l0 x18_1 ((l0.length : Int) == 16) 0 0 = some (r1, r2, r3, r4)) ∧ Aside0 (kq ≤ k) ∧ Aside0 (wc.heap[gb122]? = some (.cells #[.bool false, .int .u64 0, .int .u64 0] 24 (0, 0))) ∧ Aside0 (wc.heap[gb123]? = some (.cells #[.bool ((l0.length : Int) == 16), .int .u64 0, .int .u64 0] 24 (0, 0))) ∧ Aside0 (Below w.heap.size w wc))
 case first =>
  have H := HC2.out
  clear HC2
  by_cases c7 : (l0.length : Int) = 4
  ·
   rw [if_pos c7] at H
   have c7b0 : ((l0.length : Int) == 4) = true := beq_iff_eq.mpr c7
   have c7b1 : ((l0.length : Int) != 4) = false := bne_eq_false_iff_eq.mpr c7
   clear c7
   (first | rw [c7b0] | (simp only [i64_w, i32_w]; rw [c7b0]) | skip)
   have H' := Aside0.mk H
   clear H
   go_wp2
   go_meet
   case rel => exact ⟨_, (false), (by first | rfl | (simp; done) | (simp [*]; done)), H', ⟨by first | omega | exact Nat.le_refl _⟩, ⟨by (with_reducible repeat (first | refine blk_drewN ?_ _ | refine blk_drew ?_ | refine blk_alloc ?_ _)); refine blk_far ?_ NB122_123.out _; (with_reducible repeat (first | refine blk_drewN ?_ _ | refine blk_drew ?_ | refine blk_alloc ?_ _)); refine blk_far ?_ NB122_123.out _; (with_reducible repeat (first | refine blk_drewN ?_ _ | refine blk_drew ?_ | refine blk_alloc ?_ _)); refine blk_far ?_ NB122_123.out _; (with_reducible repeat (first | refine blk_drewN ?_ _ | refine blk_drew ?_ | refine blk_alloc ?_ _)); exact BK122.out⟩, ⟨by (with_reducible repeat (first | refine blk_drewN ?_ _ | refine blk_drew ?_ | refine blk_alloc ?_ _)); refine blk_put (cs := #[.bool ((l0.length : Int) == 16), .int .u64 0, .int .u64 0]) ?_ 2 _ rfl; (with_reducible repeat (first | refine blk_drewN ?_ _ | refine blk_drew ?_ | refine blk_alloc ?_ _)); refine blk_put (cs := #[.bool ((l0.length : Int) == 16), .int .u64 0, .int .u64 0]) ?_ 1 _ rfl; (with_reducible repeat (first | refine blk_drewN ?_ _ | refine blk_drew ?_ | refine blk_alloc ?_ _)); refine blk_put (cs := #[.bool false, .int .u64 0, .int .u64 0]) ?_ 0 _ rfl; (with_reducible repeat (first | refine blk_drewN ?_ _ | refine blk_drew ?_ | refine blk_alloc ?_ _)); exact BK123.out⟩, ⟨by repeat (first | (with_reducible first | exact HB.out | apply below_alloc | apply pw_below_drewN | apply below_drew1 | refine below_set ?_ GE122.out | refine below_set ?_ GE123.out) | exact HB.out)⟩⟩
  ·
   rw [if_neg c7] at H
   have c7b0 : ((l0.length : Int) == 4) = false := beq_eq_false_iff_ne.mpr c7
   have c7b1 : ((l0.length : Int) != 4) = true := bne_iff_ne.mpr c7
   (first | rw [c7b0] | (simp only [i64_w, i32_w]; rw [c7b0]) | skip)
   have H' := Aside0.mk H
   clear H
   go_wp2
   go_meet
   case rel => exact ⟨_, (((l0.length : Int) != 16)), (by first | rfl | (simp; done) | (simp [*]; done)), H', ⟨by first | omega | exact Nat.le_refl _⟩, ⟨by (with_reducible repeat (first | refine blk_drewN ?_ _ | refine blk_drew ?_ | refine blk_alloc ?_ _)); refine blk_far ?_ NB122_123.out _; (with_reducible repeat (first | refine blk_drewN ?_ _ | refine blk_drew ?_ | refine blk_alloc ?_ _)); refine blk_far ?_ NB122_123.out _; (with_reducible repeat (first | refine blk_drewN ?_ _ | refine blk_drew ?_ | refine blk_alloc ?_ _)); refine blk_far ?_ NB122_123.out _; (with_reducible repeat (first | refine blk_drewN ?_ _ | refine blk_drew ?_ | refine blk_alloc ?_ _)); exact BK122.out⟩, ⟨by (with_reducible repeat (first | refine blk_drewN ?_ _ | refine blk_drew ?_ | refine blk_alloc ?_ _)); refine blk_put (cs := #[.bool ((l0.length : Int) == 16), .int .u64 0, .int .u64 0]) ?_ 2 _ rfl; (with_reducible repeat (first | refine blk_drewN ?_ _ | refine blk_drew ?_ | refine blk_alloc ?_ _)); refine blk_put (cs := #[.bool ((l0.length : Int) == 16), .int .u64 0, .int .u64 0]) ?_ 1 _ rfl; (with_reducible repeat (first | refine blk_drewN ?_ _ | refine blk_drew ?_ | refine blk_alloc ?_ _)); refine blk_put (cs := #[.bool false, .int .u64 0, .int .u64 0]) ?_ 0 _ rfl; (with_reducible repeat (first | refine blk_drewN ?_ _ | refine blk_drew ?_ | refine blk_alloc ?_ _)); exact BK123.out⟩, ⟨by repeat (first | (with_reducible first | exact HB.out | apply below_alloc | apply pw_below_drewN | apply below_drew1 | refine below_set ?_ GE122.out | refine below_set ?_ GE123.out) | exact HB.out)⟩⟩
 case rest =>
  clear HC2
  try clear p2
  try clear c3
  try clear c5
  try clear c7
  try clear c7b0
  try clear c7b1
  try clear hcz6_0
  try clear hcz6_1
  try clear hcz6_2
  try clear hfz6_0
  try clear hfz6_1
  try clear hfz6_2
  obtain ⟨kq, x18_1, rfl, HA, HJ1, BK122, BK123, HB⟩ := hcut
  cases kq with
  | zero => exact absurd HA.out (by simp [addr_Of.j0])
  | succ kj1 =>
   have H := HA.out
   clear HA
   simp only [addr_Of.j0] at H
   by_cases c8 : x18_1 = true
   ·
    subst c8
    rw [if_pos rfl] at H
    simp only [Option.some.injEq, Prod.mk.injEq] at H
    obtain ⟨rfl, rfl, rfl, rfl⟩ := H
    have hnb9 := NB122_123.out
    have hnc9 := NB123_122.out
    have hcz10_0 : wc.cell? ⟨gb122, 0, none⟩ = some (.bool false) := (blk_cell BK122.out 0).trans rfl
    have hcz10_1 : wc.cell? ⟨gb122, 1, none⟩ = some (.int .u64 0) := (blk_cell BK122.out 1).trans rfl
    have hcz10_2 : wc.cell? ⟨gb122, 2, none⟩ = some (.int .u64 0) := (blk_cell BK122.out 2).trans rfl
    have hfz10_0 := blk_frozen BK122.out 0
    have hfz10_1 := blk_frozen BK122.out 1
    have hfz10_2 := blk_frozen BK122.out 2
    go_wp2
    refine bodyPost_ret (results_ct rfl _ _ gb122 24 #[.bool false, .int .u64 0, .int .u64 0] (0, 0) _ rfl (by (with_reducible repeat (first | refine blk_drewN ?_ _ | refine blk_drew ?_ | refine blk_alloc ?_ _)); refine blk_put (cs := #[.bool false, .int .u64 0, .int .u64 0]) ?_ 2 _ rfl; (with_reducible repeat (first | refine blk_drewN ?_ _ | refine blk_drew ?_ | refine blk_alloc ?_ _)); refine blk_put (cs := #[.bool false, .int .u64 0, .int .u64 0]) ?_ 1 _ rfl; (with_reducible repeat (first | refine blk_drewN ?_ _ | refine blk_drew ?_ | refine blk_alloc ?_ _)); refine blk_put (cs := #[.bool false, .int .u64 0, .int .u64 0]) ?_ 0 _ rfl; (with_reducible repeat (first | refine blk_drewN ?_ _ | refine blk_drew ?_ | refine blk_alloc ?_ _)); exact BK122.out) Try.underlying24 rfl (by kernel_rfl)) rfl ?_
    exact ⟨by first | rfl | (simp [errW_none, errW_some] <;> rfl) | (simp [*, errW_none, errW_some] <;> rfl), by repeat (first | (with_reducible first | exact HB.out | apply below_alloc | apply pw_below_drewN | apply below_drew1 | refine below_set ?_ GE122.out | refine below_set ?_ GE123.out) | exact HB.out)⟩
   ·
    replace c8 := Bool.eq_false_iff.mpr c8
    subst c8
    rw [if_neg (show ¬ (false = true) by decide)] at H
    have H' := Aside0.mk H
    clear H
    go_wp2
    go_loopg [22] kj1 (fun kq v22 w' => ∃ (x22_2 : Int) (x124001_2 : Int) (x124002_2 : Int), v22 = .int .i64 x22_2 ∧ Aside0 (addr_Of.l0 kq l0 (l0.length : Int) x22_2 ((l0.length : Int) == 16) x124001_2 x124002_2 = some (r1, r2, r3, r4)) ∧ Aside0 (kq ≤ kj1) ∧ Aside0 (w'.heap[gb122]? = some (.cells #[.bool false, .int .u64 0, .int .u64 0] 24 (0, 0))) ∧ Aside0 (w'.heap[gb123]? = some (.cells #[.bool ((l0.length : Int) == 16), .int .u64 x124001_2, .int .u64 x124002_2] 24 (0, 0))) ∧ Aside0 (Below w.heap.size w w'))
    case atStart => exact ⟨(0), (0), (0), (by first | rfl | (simp; done) | (simp [*]; done)), H', ⟨Nat.le_refl _⟩, ⟨by (with_reducible repeat (first | refine blk_drewN ?_ _ | refine blk_drew ?_ | refine blk_alloc ?_ _)); exact BK122.out⟩, ⟨by (with_reducible repeat (first | refine blk_drewN ?_ _ | refine blk_drew ?_ | refine blk_alloc ?_ _)); exact BK123.out⟩, ⟨by repeat (first | (with_reducible first | exact HB.out | apply below_alloc | apply pw_below_drewN | apply below_drew1 | refine below_set ?_ GE122.out | refine below_set ?_ GE123.out) | exact HB.out)⟩⟩
    case round =>
     clear H'
     try clear p2
     try clear c3
     try clear c5
     try clear c7
     try clear c7b0
     try clear c7b1
     try clear c8
     try clear c9
     try clear hcz10_0
     try clear hcz10_1
     try clear hcz10_2
     try clear hcz6_0
     try clear hcz6_1
     try clear hcz6_2
     try clear hfz10_0
     try clear hfz10_1
     try clear hfz10_2
     try clear hfz6_0
     try clear hfz6_1
     try clear hfz6_2
     try clear p2
     obtain ⟨x22_2, x124001_2, x124002_2, rfl, HA, HK2, BK122, BK123, HB⟩ := hrel
     cases gk with
     | zero => exact absurd HA.out (by simp [addr_Of.l0])
     | succ k2 =>
      have H := HA.out
      clear HA
      simp only [addr_Of.l0] at H
      by_cases c11 : x22_2 < (l0.length : Int)
      ·
       rw [if_pos c11] at H
       have c11b0 : decide (x22_2 < (l0.length : Int)) = true := decide_eq_true c11
       clear c11
       by_cases c12 : 0 ≤ x22_2
       ·
        rw [if_pos c12] at H
        have c12b0 : decide (0 ≤ x22_2) = true := decide_eq_true c12
        clear c12
        by_cases c13 : x22_2 < (l0.length : Int)
        ·
         rw [if_pos c13] at H
         have c13b0 : decide (x22_2 < (l0.length : Int)) = true := decide_eq_true c13
         clear c13
         by_cases c14 : ((l0.length : Int) == 16) = true
         ·
          rw [if_pos c14] at H
          have c14b0 : ((l0.length : Int) == 16) = true := c14
          (try (have c14b1 : decide ((l0.length : Int) = 16) = true := by simpa using c14))
          (try (have c14b2 : ((l0.length : Int) == 16) = true := by simpa using c14))
          clear c14
          by_cases c15 : x22_2 < 8
          ·
           rw [if_pos c15] at H
           have c15b0 : decide (x22_2 < 8) = true := decide_eq_true c15
           clear c15
           have H' := Aside0.mk H
           clear H
           have p124 : 0 ≤ (x22_2 : Int) := of_decide_eq_true (by first | (with_reducible assumption) | assumption)
           have q124 : x22_2 < (l0.length : Int) := of_decide_eq_true (by first | (with_reducible assumption) | assumption)
           obtain ⟨ad124, e124, hx124_0⟩ := Kd.at_int HR0.out x22_2 p124 q124
           cases e124
           replace hx124_0 := (HB.out.cell (World.block_lt_of_cell? w _ hx124_0)).trans hx124_0
           replace p124 := eq_true p124
           replace q124 := eq_true q124
           have hnb16 := NB123_122.out
           have hnc16 := NB122_123.out
           have hcz17_0 : wr.cell? ⟨gb123, 0, none⟩ = some (.bool ((l0.length : Int) == 16)) := (blk_cell BK123.out 0).trans rfl
           have hcz17_1 : wr.cell? ⟨gb123, 1, none⟩ = some (.int .u64 x124001_2) := (blk_cell BK123.out 1).trans rfl
           have hcz17_2 : wr.cell? ⟨gb123, 2, none⟩ = some (.int .u64 x124002_2) := (blk_cell BK123.out 2).trans rfl
           have hfz17_0 := blk_frozen BK123.out 0
           have hfz17_1 := blk_frozen BK123.out 1
           have hfz17_2 := blk_frozen BK123.out 2
           go_wp2
           go_roundg k2
           case measure => have := HJ1.out; have := HK2.out; omega
           case rel => exact ⟨(wrap64 (x22_2 + 1)), (Go.bits .or .u64 (IntKind.u64.wrap (x124001_2 * 256)) (IntKind.u64.wrap (rd l0 x22_2))), (x124002_2), (by first | rfl | (simp; done) | (simp [*]; done)), H', ⟨by have := HJ1.out; have := HK2.out; omega⟩, ⟨by (with_reducible repeat (first | refine blk_drewN ?_ _ | refine blk_drew ?_ | refine blk_alloc ?_ _)); refine blk_far ?_ NB122_123.out _; (with_reducible repeat (first | refine blk_drewN ?_ _ | refine blk_drew ?_ | refine blk_alloc ?_ _)); exact BK122.out⟩, ⟨by (with_reducible repeat (first | refine blk_drewN ?_ _ | refine blk_drew ?_ | refine blk_alloc ?_ _)); refine blk_put (cs := #[.bool ((l0.length : Int) == 16), .int .u64 x124001_2, .int .u64 x124002_2]) ?_ 1 _ rfl; (with_reducible repeat (first | refine blk_drewN ?_ _ | refine blk_drew ?_ | refine blk_alloc ?_ _)); exact BK123.out⟩, ⟨by repeat (first | (with_reducible first | exact HB.out | apply below_alloc | apply pw_below_drewN | apply below_drew1 | refine below_set ?_ GE122.out | refine below_set ?_ GE123.out) | exact HB.out)⟩⟩
          ·
           rw [if_neg c15] at H
           have c15b0 : decide (x22_2 < 8) = false := decide_eq_false c15
           clear c15
           have H' := Aside0.mk H
           clear H
           have p124 : 0 ≤ (x22_2 : Int) := of_decide_eq_true (by first | (with_reducible assumption) | assumption)
           have q124 : x22_2 < (l0.length : Int) := of_decide_eq_true (by first | (with_reducible assumption) | assumption)
           obtain ⟨ad124, e124, hx124_0⟩ := Kd.at_int HR0.out x22_2 p124 q124
           cases e124
           replace hx124_0 := (HB.out.cell (World.block_lt_of_cell? w _ hx124_0)).trans hx124_0
           replace p124 := eq_true p124
           replace q124 := eq_true q124
           have hnb18 := NB123_122.out
           have hnc18 := NB122_123.out
           have hcz19_0 : wr.cell? ⟨gb123, 0, none⟩ = some (.bool ((l0.length : Int) == 16)) := (blk_cell BK123.out 0).trans rfl
           have hcz19_1 : wr.cell? ⟨gb123, 1, none⟩ = some (.int .u64 x124001_2) := (blk_cell BK123.out 1).trans rfl
           have hcz19_2 : wr.cell? ⟨gb123, 2, none⟩ = some (.int .u64 x124002_2) := (blk_cell BK123.out 2).trans rfl
           have hfz19_0 := blk_frozen BK123.out 0
           have hfz19_1 := blk_frozen BK123.out 1
           have hfz19_2 := blk_frozen BK123.out 2
           go_wp2
           go_roundg k2
           case measure => have := HJ1.out; have := HK2.out; omega
           case rel => exact ⟨(wrap64 (x22_2 + 1)), (x124001_2), (Go.bits .or .u64 (IntKind.u64.wrap (x124002_2 * 256)) (IntKind.u64.wrap (rd l0 x22_2))), (by first | rfl | (simp; done) | (simp [*]; done)), H', ⟨by have := HJ1.out; have := HK2.out; omega⟩, ⟨by (with_reducible repeat (first | refine blk_drewN ?_ _ | refine blk_drew ?_ | refine blk_alloc ?_ _)); refine blk_far ?_ NB122_123.out _; (with_reducible repeat (first | refine blk_drewN ?_ _ | refine blk_drew ?_ | refine blk_alloc ?_ _)); exact BK122.out⟩, ⟨by (with_reducible repeat (first | refine blk_drewN ?_ _ | refine blk_drew ?_ | refine blk_alloc ?_ _)); refine blk_put (cs := #[.bool ((l0.length : Int) == 16), .int .u64 x124001_2, .int .u64 x124002_2]) ?_ 2 _ rfl; (with_reducible repeat (first | refine blk_drewN ?_ _ | refine blk_drew ?_ | refine blk_alloc ?_ _)); exact BK123.out⟩, ⟨by repeat (first | (with_reducible first | exact HB.out | apply below_alloc | apply pw_below_drewN | apply below_drew1 | refine below_set ?_ GE122.out | refine below_set ?_ GE123.out) | exact HB.out)⟩⟩
         ·
          rw [if_neg c14] at H
          have c14b0 : ((l0.length : Int) == 16) = false := by simpa using c14
          (try (have c14b1 : decide ((l0.length : Int) = 16) = false := by simpa using c14))
          (try (have c14b2 : ((l0.length : Int) == 16) = false := by simpa using c14))
          (try (have c14b3 : ¬ ((l0.length : Int) = 16) := by simpa using c14))
          clear c14
          have H' := Aside0.mk H
          clear H
          have p124 : 0 ≤ (x22_2 : Int) := of_decide_eq_true (by first | (with_reducible assumption) | assumption)
          have q124 : x22_2 < (l0.length : Int) := of_decide_eq_true (by first | (with_reducible assumption) | assumption)
          obtain ⟨ad124, e124, hx124_0⟩ := Kd.at_int HR0.out x22_2 p124 q124
          cases e124
          replace hx124_0 := (HB.out.cell (World.block_lt_of_cell? w _ hx124_0)).trans hx124_0
          replace p124 := eq_true p124
          replace q124 := eq_true q124
          have hnb20 := NB123_122.out
          have hnc20 := NB122_123.out
          have hcz21_0 : wr.cell? ⟨gb123, 0, none⟩ = some (.bool ((l0.length : Int) == 16)) := (blk_cell BK123.out 0).trans rfl
          have hcz21_1 : wr.cell? ⟨gb123, 1, none⟩ = some (.int .u64 x124001_2) := (blk_cell BK123.out 1).trans rfl
          have hcz21_2 : wr.cell? ⟨gb123, 2, none⟩ = some (.int .u64 x124002_2) := (blk_cell BK123.out 2).trans rfl
          have hfz21_0 := blk_frozen BK123.out 0
          have hfz21_1 := blk_frozen BK123.out 1
          have hfz21_2 := blk_frozen BK123.out 2
          go_wp2
          go_roundg k2
          case measure => have := HJ1.out; have := HK2.out; omega
          case rel => exact ⟨(wrap64 (x22_2 + 1)), (x124001_2), (Go.bits .or .u64 (IntKind.u64.wrap (x124002_2 * 256)) (IntKind.u64.wrap (rd l0 x22_2))), (by first | rfl | (simp; done) | (simp [*]; done)), H', ⟨by have := HJ1.out; have := HK2.out; omega⟩, ⟨by (with_reducible repeat (first | refine blk_drewN ?_ _ | refine blk_drew ?_ | refine blk_alloc ?_ _)); refine blk_far ?_ NB122_123.out _; (with_reducible repeat (first | refine blk_drewN ?_ _ | refine blk_drew ?_ | refine blk_alloc ?_ _)); exact BK122.out⟩, ⟨by (with_reducible repeat (first | refine blk_drewN ?_ _ | refine blk_drew ?_ | refine blk_alloc ?_ _)); refine blk_put (cs := #[.bool ((l0.length : Int) == 16), .int .u64 x124001_2, .int .u64 x124002_2]) ?_ 2 _ rfl; (with_reducible repeat (first | refine blk_drewN ?_ _ | refine blk_drew ?_ | refine blk_alloc ?_ _)); exact BK123.out⟩, ⟨by repeat (first | (with_reducible first | exact HB.out | apply below_alloc | apply pw_below_drewN | apply below_drew1 | refine below_set ?_ GE122.out | refine below_set ?_ GE123.out) | exact HB.out)⟩⟩
        ·
         rw [if_neg c13] at H
         exact absurd H (by simp)
       ·
        rw [if_neg c12] at H
        exact absurd H (by simp)
      ·
       rw [if_neg c11] at H
       have c11b0 : decide (x22_2 < (l0.length : Int)) = false := decide_eq_false c11
       clear c11
       simp only [Option.some.injEq, Prod.mk.injEq] at H
       obtain ⟨rfl, rfl, rfl, rfl⟩ := H
       have hnb22 := NB123_122.out
       have hnc22 := NB122_123.out
       have hcz23_0 : wr.cell? ⟨gb123, 0, none⟩ = some (.bool ((l0.length : Int) == 16)) := (blk_cell BK123.out 0).trans rfl
       have hcz23_1 : wr.cell? ⟨gb123, 1, none⟩ = some (.int .u64 x124001_2) := (blk_cell BK123.out 1).trans rfl
       have hcz23_2 : wr.cell? ⟨gb123, 2, none⟩ = some (.int .u64 x124002_2) := (blk_cell BK123.out 2).trans rfl
       have hfz23_0 := blk_frozen BK123.out 0
       have hfz23_1 := blk_frozen BK123.out 1
       have hfz23_2 := blk_frozen BK123.out 2
       have hcz24_0 : wr.cell? ⟨gb122, 0, none⟩ = some (.bool false) := (blk_cell BK122.out 0).trans rfl
       have hcz24_1 : wr.cell? ⟨gb122, 1, none⟩ = some (.int .u64 0) := (blk_cell BK122.out 1).trans rfl
       have hcz24_2 : wr.cell? ⟨gb122, 2, none⟩ = some (.int .u64 0) := (blk_cell BK122.out 2).trans rfl
       have hfz24_0 := blk_frozen BK122.out 0
       have hfz24_1 := blk_frozen BK122.out 1
       have hfz24_2 := blk_frozen BK122.out 2
       go_wp2
       refine bodyPost_ret (results_ct rfl _ _ gb122 24 #[.bool ((l0.length : Int) == 16), .int .u64 x124001_2, .int .u64 x124002_2] (0, 0) _ rfl (by (with_reducible repeat (first | refine blk_drewN ?_ _ | refine blk_drew ?_ | refine blk_alloc ?_ _)); refine blk_put (cs := #[.bool ((l0.length : Int) == 16), .int .u64 x124001_2, .int .u64 0]) ?_ 2 _ rfl; (with_reducible repeat (first | refine blk_drewN ?_ _ | refine blk_drew ?_ | refine blk_alloc ?_ _)); refine blk_put (cs := #[.bool ((l0.length : Int) == 16), .int .u64 0, .int .u64 0]) ?_ 1 _ rfl; (with_reducible repeat (first | refine blk_drewN ?_ _ | refine blk_drew ?_ | refine blk_alloc ?_ _)); refine blk_put (cs := #[.bool false, .int .u64 0, .int .u64 0]) ?_ 0 _ rfl; (with_reducible repeat (first | refine blk_drewN ?_ _ | refine blk_drew ?_ | refine blk_alloc ?_ _)); exact BK122.out) Try.underlying24 rfl (by kernel_rfl)) rfl ?_
       exact ⟨by first | rfl | (simp [errW_none, errW_some] <;> rfl) | (simp [*, errW_none, errW_some] <;> rfl), by repeat (first | (with_reducible first | exact HB.out | apply below_alloc | apply pw_below_drewN | apply below_drew1 | refine below_set ?_ GE122.out | refine below_set ?_ GE123.out) | exact HB.out)⟩

/-! ### octet_Get: function 31 -/
mutual
def octet_Get.j0 : Nat → List Int → Int → Int → Bool → Option (Int × Bool)
 | 0, _, _, _, _ => none
 | k + 1, x0, x1, x2, x33 => if x33 = true then (some (0, false)) else (octet_Get.l0 k x0 x1 0 x2 0)
def octet_Get.l0 : Nat → List Int → Int → Int → Int → Int → Option (Int × Bool)
 | 0, _, _, _, _, _ => none
 | k + 1, x0, x1, x8, x34, x35 => if x35 < x34 then (if 0 ≤ (wrap64 (x1 + x35)) then (if (wrap64 (x1 + x35)) < (x0.length : Int) then (octet_Get.l0 k x0 x1 (Go.bits .or .u64 (IntKind.u64.wrap (x8 * 256)) (IntKind.u64.wrap (rd x0 (wrap64 (x1 + x35))))) x34 (wrap64 (x35 + 1))) else (none)) else (none)) else (some (x8, true))
end
def octet_Get.f (k : Nat) (l0 : List Int) (a1 : Int) (a2 : Int) : Option (Int × Bool) := if a2 < 0 then (octet_Get.j0 k l0 a1 a2 true) else (if a2 > 8 then (octet_Get.j0 k l0 a1 a2 true) else (if a1 < 0 then (octet_Get.j0 k l0 a1 a2 true) else (if a1 > (l0.length : Int) then (octet_Get.j0 k l0 a1 a2 true) else (octet_Get.j0 k l0 a1 a2 (decide (a2 > (wrap64 ((l0.length : Int) - a1))))))))
theorem octet_Get.mono_l : ∀ k, (∀ y0 y1 y2 y3, LeO (octet_Get.j0 k y0 y1 y2 y3) (octet_Get.j0 (k + 1) y0 y1 y2 y3)) ∧ (∀ y0 y1 y2 y3 y4, LeO (octet_Get.l0 k y0 y1 y2 y3 y4) (octet_Get.l0 (k + 1) y0 y1 y2 y3 y4))
 | 0 => ⟨fun _ _ _ _ r h => by simp [octet_Get.j0] at h, fun _ _ _ _ _ r h => by simp [octet_Get.l0] at h⟩
 | k + 1 => by
  obtain ⟨ih0, ih1⟩ := octet_Get.mono_l k
  refine ⟨?_, ?_⟩
  ·
   intro y0 y1 y2 y3
   unfold octet_Get.j0
   repeat' first
   | (with_reducible exact ih0 _ _ _ _)
   | (with_reducible exact ih1 _ _ _ _ _)
   | (with_reducible exact LeO.refl _)
   | (with_reducible exact LeO.none _)
   | (with_reducible refine LeO.ite ?_ ?_)
   | (with_reducible refine LeO.bind ?_ (fun _ => ?_))
   | exact ih0 _ _ _ _
   | exact ih1 _ _ _ _ _
   | exact LeO.none _
   | refine LeO.ite ?_ ?_
   | refine LeO.bind ?_ (fun _ => ?_)
  ·
   intro y0 y1 y2 y3 y4
   unfold octet_Get.l0
   repeat' first
   | (with_reducible exact ih0 _ _ _ _)
   | (with_reducible exact ih1 _ _ _ _ _)
   | (with_reducible exact LeO.refl _)
   | (with_reducible exact LeO.none _)
   | (with_reducible refine LeO.ite ?_ ?_)
   | (with_reducible refine LeO.bind ?_ (fun _ => ?_))
   | exact ih0 _ _ _ _
   | exact ih1 _ _ _ _ _
   | exact LeO.none _
   | refine LeO.ite ?_ ?_
   | refine LeO.bind ?_ (fun _ => ?_)
theorem octet_Get.mono : ∀ a0 a1 a2 k, LeO (octet_Get.f k a0 a1 a2) (octet_Get.f (k + 1) a0 a1 a2) := by
 intro a0 a1 a2 k
 obtain ⟨ih0, ih1⟩ := octet_Get.mono_l k
 unfold octet_Get.f
 repeat' first
   | (with_reducible exact ih0 _ _ _ _)
   | (with_reducible exact ih1 _ _ _ _ _)
   | (with_reducible exact LeO.refl _)
   | (with_reducible exact LeO.none _)
   | (with_reducible refine LeO.ite ?_ ?_)
   | (with_reducible refine LeO.bind ?_ (fun _ => ?_))
   | exact ih0 _ _ _ _
   | exact ih1 _ _ _ _ _
   | exact LeO.none _
   | refine LeO.ite ?_ ?_
   | refine LeO.bind ?_ (fun _ => ?_)
set_option maxHeartbeats 8000000 in
set_option maxRecDepth 100000 in
theorem octet_Get.calls (k : Nat) (A0 : Option Addr) (c0 : Nat) (l0 : List Int) (a1 : Int) (a2 : Int) (r1 : Int) (r2 : Bool) (w : World) (hr0 : Kd.C (Kd.int .u8) w A0 l0.length l0) (hc0 : l0.length ≤ c0) (h : octet_Get.f k l0 a1 a2 = some (r1, r2)) :
  Calls Try.prog 31 #[.slice A0 l0.length c0, .int .i64 a1, .int .i64 a2] w fun e w' => e = .returned (.tuple #[.int .u64 r1, .bool r2]) ∧ Drawn0 w w' := by
 have HR0 := Aside0.mk hr0
 have HC0 := Aside0.mk hc0
 clear hr0 hc0
 have H : (if a2 < 0 then (octet_Get.j0 k l0 a1 a2 true) else (if a2 > 8 then (octet_Get.j0 k l0 a1 a2 true) else (if a1 < 0 then (octet_Get.j0 k l0 a1 a2 true) else (if a1 > (l0.length : Int) then (octet_Get.j0 k l0 a1 a2 true) else (octet_Get.j0 k l0 a1 a2 (decide (a2 > (wrap64 ((l0.length : Int) - a1))))))))) = some (r1, r2) := h
 clear h
 have HC4 := Aside0.mk H
 clear H
 go_enter Try.func31, Try.ntmps31
 go_upto_region 1 with (fail)
 go_cut [33] (fun v33 wc => ∃ (kq : Nat) (x33_3 : Bool), v33 = .bool x33_3 ∧ Aside0 (octet_Get.j0 kq l0 a1 a2 x33_3 = some (r1, r2)) ∧ Aside0 (kq ≤ k) ∧ Drawn0 w wc)
 case first =>
  have H := HC4.out
  clear HC4
  by_cases c5 : a2 < 0
  ·
   rw [if_pos c5] at H
   have c5b0 : decide (a2 < 0) = true := decide_eq_true c5
   clear c5
   (first | rw [c5b0] | (simp only [i64_w, i32_w]; rw [c5b0]) | skip)
   have H' := Aside0.mk H
   clear H
   go_wp2
   go_meet
   case rel => exact ⟨_, (true), (by first | rfl | (simp; done) | (simp [*]; done)), H', ⟨by first | omega | exact Nat.le_refl _⟩, by repeat (first | exact Drawn0.refl _ | apply Drawn0.step)⟩
  ·
   rw [if_neg c5] at H
   have c5b0 : decide (a2 < 0) = false := decide_eq_false c5
   clear c5
   (first | rw [c5b0] | (simp only [i64_w, i32_w]; rw [c5b0]) | skip)
   by_cases c6 : a2 > 8
   ·
    rw [if_pos c6] at H
    have c6b0 : decide (8 < a2) = true := decide_eq_true c6
    clear c6
    have H' := Aside0.mk H
    clear H
    go_wp2
    go_meet
    case rel => exact ⟨_, (true), (by first | rfl | (simp; done) | (simp [*]; done)), H', ⟨by first | omega | exact Nat.le_refl _⟩, by repeat (first | exact Drawn0.refl _ | apply Drawn0.step)⟩
   ·
    rw [if_neg c6] at H
    have c6b0 : decide (8 < a2) = false := decide_eq_false c6
    clear c6
    by_cases c7 : a1 < 0
    ·
     rw [if_pos c7] at H
     have c7b0 : decide (a1 < 0) = true := decide_eq_true c7
     clear c7
     have H' := Aside0.mk H
     clear H
     go_wp2
     go_meet
     case rel => exact ⟨_, (true), (by first | rfl | (simp; done) | (simp [*]; done)), H', ⟨by first | omega | exact Nat.le_refl _⟩, by repeat (first | exact Drawn0.refl _ | apply Drawn0.step)⟩
    ·
     rw [if_neg c7] at H
     have c7b0 : decide (a1 < 0) = false := decide_eq_false c7
     clear c7
     by_cases c8 : a1 > (l0.length : Int)
     ·
      rw [if_pos c8] at H
      have c8b0 : decide ((l0.length : Int) < a1) = true := decide_eq_true c8
      clear c8
      have H' := Aside0.mk H
      clear H
      go_wp2
      go_meet
      case rel => exact ⟨_, (true), (by first | rfl | (simp; done) | (simp [*]; done)), H', ⟨by first | omega | exact Nat.le_refl _⟩, by repeat (first | exact Drawn0.refl _ | apply Drawn0.step)⟩
     ·
      rw [if_neg c8] at H
      have c8b0 : decide ((l0.length : Int) < a1) = false := decide_eq_false c8
      clear c8
      have H' := Aside0.mk H
      clear H
      go_wp2
      go_meet
      case rel => exact ⟨_, (decide (a2 > (wrap64 ((l0.length : Int) - a1)))), (by first | rfl | (simp; done) | (simp [*]; done)), H', ⟨by first | omega | exact Nat.le_refl _⟩, by repeat (first | exact Drawn0.refl _ | apply Drawn0.step)⟩
 case rest =>
  clear HC4
  try clear p2
  try clear c3
  try clear c5
  try clear c5b0
  try clear c6
  try clear c6b0
  try clear p6
  try clear c7
  try clear c7b0
  try clear c8
  try clear c8b0
  obtain ⟨kq, x33_3, rfl, HA, HJ3, ⟨mc3, rfl⟩⟩ := hcut
  cases kq with
  | zero => exact absurd HA.out (by simp [octet_Get.j0])
  | succ kj3 =>
   have H := HA.out
   clear HA
   simp only [octet_Get.j0] at H
   by_cases c9 : x33_3 = true
   ·
    subst c9
    rw [if_pos rfl] at H
    simp only [Option.some.injEq, Prod.mk.injEq] at H
    obtain ⟨rfl, rfl⟩ := H
    go_wp2
    go_ret2
    exact ⟨by first | rfl | (simp; done) | (simp [*]; done), by repeat (first | exact Drawn0.refl _ | apply Drawn0.step)⟩
   ·
    replace c9 := Bool.eq_false_iff.mpr c9
    subst c9
    rw [if_neg (show ¬ (false = true) by decide)] at H
    have H' := Aside0.mk H
    clear H
    go_wp2
    go_loopg [8, 35] kj3 (fun kq v8 v35 w' => ∃ (x8_2 : Int) (x35_2 : Int), v8 = .int .u64 x8_2 ∧ v35 = .int .i64 x35_2 ∧ Aside0 (octet_Get.l0 kq l0 a1 x8_2 a2 x35_2 = some (r1, r2)) ∧ Aside0 (kq ≤ kj3) ∧ Drawn0 w w')
    case atStart => exact ⟨(0), (0), (by first | rfl | (simp; done) | (simp [*]; done)), (by first | rfl | (simp; done) | (simp [*]; done)), H', ⟨Nat.le_refl _⟩, by repeat (first | exact Drawn0.refl _ | apply Drawn0.step)⟩
    case round =>
     clear H'
     try clear p2
     try clear c3
     try clear c5
     try clear c5b0
     try clear c6
     try clear c6b0
     try clear p6
     try clear c7
     try clear c7b0
     try clear c8
     try clear c8b0
     try clear c9
     try clear p2
     try clear p6
     obtain ⟨x8_2, x35_2, rfl, rfl, HA, HK2, ⟨m2, rfl⟩⟩ := hrel
     cases gk with
     | zero => exact absurd HA.out (by simp [octet_Get.l0])
     | succ k2 =>
      have H := HA.out
      clear HA
      simp only [octet_Get.l0] at H
      by_cases c10 : x35_2 < a2
      ·
       rw [if_pos c10] at H
       have c10b0 : decide (x35_2 < a2) = true := decide_eq_true c10
       clear c10
       obtain ⟨ji11, hji11⟩ : ∃ j_ : Int, (wrap64 (a1 + x35_2)) = j_ := ⟨_, rfl⟩
       replace H : (if 0 ≤ (ji11) then (if (ji11) < (l0.length : Int) then (octet_Get.l0 k2 l0 a1 (Go.bits .or .u64 (IntKind.u64.wrap (x8_2 * 256)) (IntKind.u64.wrap (rd l0 (ji11)))) a2 (wrap64 (x35_2 + 1))) else (none)) else (none)) = some (r1, r2) := by first | (rw [hji11] at H; exact H) | (simp only [hji11] at H ⊢; exact H)
       have hji11w : (IntKind.i64.wrap (a1 + x35_2)) = ji11 := (i64_w _).trans hji11
       by_cases c12 : 0 ≤ (ji11)
       ·
        rw [if_pos c12] at H
        have c12b0 : decide (0 ≤ (ji11)) = true := decide_eq_true c12
        clear c12
        by_cases c13 : (ji11) < (l0.length : Int)
        ·
         rw [if_pos c13] at H
         have c13b0 : decide ((ji11) < (l0.length : Int)) = true := decide_eq_true c13
         clear c13
         have H' := Aside0.mk H
         clear H
         have p125 : 0 ≤ ((ji11) : Int) := of_decide_eq_true (by first | (with_reducible assumption) | assumption)
         have q125 : (ji11) < (l0.length : Int) := of_decide_eq_true (by first | (with_reducible assumption) | assumption)
         obtain ⟨ad125, e125, hx125_0⟩ := Kd.at_int HR0.out (ji11) p125 q125
         cases e125
         replace p125 := eq_true p125
         replace q125 := eq_true q125
         go_wp2
         go_roundg k2
         case measure => have := HJ3.out; have := HK2.out; omega
         case rel => exact ⟨(Go.bits .or .u64 (IntKind.u64.wrap (x8_2 * 256)) (IntKind.u64.wrap (rd l0 (ji11)))), (wrap64 (x35_2 + 1)), (by first | rfl | (simp; done) | (simp only [← hji11] <;> (first | rfl | simp)) | (simp [*]; done)), (by first | rfl | (simp; done) | (simp [*]; done)), H', ⟨by have := HJ3.out; have := HK2.out; omega⟩, by repeat (first | exact Drawn0.refl _ | apply Drawn0.step)⟩
        ·
         rw [if_neg c13] at H
         exact absurd H (by simp)
       ·
        rw [if_neg c12] at H
        exact absurd H (by simp)
      ·
       rw [if_neg c10] at H
       have c10b0 : decide (x35_2 < a2) = false := decide_eq_false c10
       clear c10
       simp only [Option.some.injEq, Prod.mk.injEq] at H
       obtain ⟨rfl, rfl⟩ := H
       go_wp2
       go_ret2
       exact ⟨by first | rfl | (simp; done) | (simp [*]; done), by repeat (first | exact Drawn0.refl _ | apply Drawn0.step)⟩

/-! ### nd_taken: function 22 (by hand) -/
def nd_taken.no (e : Int) : Bool × Int × Int × Bool × Int × Int := (false, 0, 0, false, 0, e)
def nd_taken.find (opt : Int) (l : List S43) : Option S43 := l.find? fun x => x.f0 == opt && x.f1.size == 6
def nd_taken.mac (k : Nat) (opt : Int) (b : Bool) (hi lo : Int) (l : List S43) : Option (Bool × Int × Int × Bool × Int × Int) :=
 match nd_taken.find opt l with
 | none => some (b, hi, lo, false, 0, 0)
 | some x => (octet_Get.f k (bytesOf x.f1) 0 6).bind fun n => some (b, hi, lo, true, n.1, 0)
def nd_taken.f (k : Nat) (a0_0 : Bool) (a0_1 a0_2 a0_3 : Int) (a0_4 : ByteArray) (a1 a2 : Int) : Option (Bool × Int × Int × Bool × Int × Int) :=
 if a0_0 = false ∨ a0_1 ≠ a1 ∨ a0_2 ≠ 0 then some (nd_taken.no 80) else
 if a0_4.size < 16 then some (nd_taken.no 81) else
 if 140737488355200 < a0_4.size then none else
 (addr_Of.f k (bytesOf (a0_4.extract 0 16))).bind fun a => (nd_may.f a.1 a.2.1 a.2.2.1 false 0).bind fun y => if y = false then some (nd_taken.no 80) else
 (nd_Options.f k (a0_4.extract 16 a0_4.size)).bind fun o => if o.2 ≠ 0 then some (nd_taken.no o.2) else if 140737488355200 < o.1.length then none else nd_taken.mac k a2 a.1 a.2.1 a.2.2.1 o.1
theorem nd_taken.mac_mono (k : Nat) (opt : Int) (b : Bool) (hi lo : Int) (l : List S43) : LeO (nd_taken.mac k opt b hi lo l) (nd_taken.mac (k + 1) opt b hi lo l) := by
 unfold nd_taken.mac
 split
 · exact LeO.refl _
 · exact LeO.bind (octet_Get.mono _ _ _ _) (fun _ => LeO.refl _)
theorem nd_taken.mono : ∀ a b c d e f g k, LeO (nd_taken.f k a b c d e f g) (nd_taken.f (k + 1) a b c d e f g) := by
 intro a b c d e f g k
 unfold nd_taken.f
 refine LeO.ite (LeO.refl _) (LeO.ite (LeO.refl _) (LeO.ite (LeO.refl _) (LeO.bind (addr_Of.mono _ _) (fun _ => LeO.bind (LeO.refl _) (fun _ => LeO.ite (LeO.refl _) (LeO.bind (nd_Options.mono _ _) (fun _ => LeO.ite (LeO.refl _) (LeO.ite (LeO.refl _) (nd_taken.mac_mono _ _ _ _ _ _)))))))))
theorem results_cttt {P : Program} {fn : Func} {p u v x : Tmp} {ty : TypeId} (h : fn.results = #[.cell p ty, .tmp u, .tmp v, .tmp x]) (tmps : Array Value) (w : World) (g : Nat) (t : TypeId) (cs : Array Value) (fr : Nat × Nat) (d : TypeDesc)
    (hp : tmps.getD p undef = .pointer (some ⟨g, 0, none⟩)) (hg : w.heap[g]? = some (.cells cs t fr))
    (hu : P.underlying ty = some d) (hd : (match d with | .struct _ | .array _ _ => true | _ => false) = true) (hi : (P.info? ty).map (·.size) = some cs.size) :
    (results fn tmps).run P w = .ok (.tuple #[.agg cs, tmps.getD u undef, tmps.getD v undef, tmps.getD x undef]) w := by
  have hp' : tmps[p]?.getD undef = .pointer (some ⟨g, 0, none⟩) := by simpa using hp
  simp [results, h, hp', asAddr, run_loadVar_row w g t ty cs fr d hg hu hd hi]
def nd_taken.v (r : Bool × Int × Int × Bool × Int × Int) : Value := .tuple #[.agg #[.bool r.1, .int .u64 r.2.1, .int .u64 r.2.2.1], .bool r.2.2.2.1, .int .u64 r.2.2.2.2.1, .int .i64 r.2.2.2.2.2]
theorem put3 {w : World} {g T : Nat} {a b c : Value} (h : w.heap[g]? = some (.cells #[a, b, c] T (0, 0))) (a' b' c' : Value) :
    (((w.setCell ⟨g, 0, none⟩ a').setCell ⟨g, 1, none⟩ b').setCell ⟨g, 2, none⟩ c').heap[g]? = some (.cells #[a', b', c'] T (0, 0)) :=
  MReader.setCell_heap (j := 2) (u := c') (MReader.setCell_heap (j := 1) (u := b') (MReader.setCell_heap (j := 0) (u := a') h))
theorem put3_below {w0 w : World} {g : Nat} (h : Below w0.heap.size w0 w) (hg : w0.heap.size ≤ g) (a' b' c' : Value) :
    Below w0.heap.size w0 (((w.setCell ⟨g, 0, none⟩ a').setCell ⟨g, 1, none⟩ b').setCell ⟨g, 2, none⟩ c') := below_set (below_set (below_set h hg) hg) hg
set_option maxHeartbeats 1000000 in
set_option maxRecDepth 100000 in
theorem nd_taken.early (a0_0 : Bool) (a0_1 a0_2 a0_3 : Int) (a0_4 : ByteArray) (a1 a2 e : Int) (w : World) (h : (e = 80 ∧ (a0_0 = false ∨ a0_1 ≠ a1 ∨ a0_2 ≠ 0)) ∨ (e = 81 ∧ a0_0 = true ∧ a0_1 = a1 ∧ a0_2 = 0 ∧ a0_4.size < 16)) :
  Calls Try.prog 22 #[.agg #[.bool a0_0, .int .i64 a0_1, .int .i64 a0_2, .int .i64 a0_3, .string a0_4], .int .i64 a1, .int .i64 a2] w fun x w' => x = .returned (nd_taken.v (nd_taken.no e)) ∧ Below w.heap.size w w' := by
 have hu1 := Try.underlying32
 have hu2 := Try.underlying24
 rcases h with ⟨rfl, h⟩ | ⟨rfl, rfl, rfl, rfl, h⟩
 · by_cases h1 : a0_0 = false
   · subst h1
     go_enter Try.func22, Try.ntmps22
     go_wp2_with fail
     refine bodyPost_ret (results_cttt rfl _ _ _ 24 #[.bool false, .int .u64 0, .int .u64 0] (0, 0) _ rfl (MStr.alloc2_new w _ _) Try.underlying24 rfl (by kernel_rfl)) rfl ⟨rfl, by go_grown⟩
   have h1 : a0_0 = true := by simpa using h1
   subst h1
   by_cases h2 : a0_1 = a1
   · subst h2
     have h3 : ¬ a0_2 = 0 := by simpa using h
     go_enter Try.func22, Try.ntmps22
     go_wp2_with fail
     refine bodyPost_ret (results_cttt rfl _ _ _ 24 #[.bool false, .int .u64 0, .int .u64 0] (0, 0) _ rfl (MStr.alloc2_new w _ _) Try.underlying24 rfl (by kernel_rfl)) rfl ⟨rfl, by go_grown⟩
   · clear h
     go_enter Try.func22, Try.ntmps22
     go_wp2_with fail
     refine bodyPost_ret (results_cttt rfl _ _ _ 24 #[.bool false, .int .u64 0, .int .u64 0] (0, 0) _ rfl (MStr.alloc2_new w _ _) Try.underlying24 rfl (by kernel_rfl)) rfl ⟨rfl, by go_grown⟩
 · have hs : (a0_4.size : Int) < 16 := by omega
   go_enter Try.func22, Try.ntmps22
   go_wp2_with fail
   refine bodyPost_ret (results_cttt rfl _ _ _ 24 #[.bool false, .int .u64 0, .int .u64 0] (0, 0) _ rfl (MStr.alloc2_new w _ _) Try.underlying24 rfl (by kernel_rfl)) rfl ⟨rfl, by go_grown⟩
/-- An option's cells, as it lies in a row. -/
theorem at_opt {w : World} {A : Option Addr} {xs : List S43} (h : Kd.C k43 w A xs.length xs) {i : Nat} (h1 : i < xs.length) : ∃ ad, A = some ad ∧ w.cell? (ad.add (i * 2)) = some (.int .i64 xs[i].f0) ∧ w.cell? ⟨(ad.add (i * 2)).block, (ad.add (i * 2)).off + 1, none⟩ = some (.string xs[i].f1) := by
  obtain ⟨ad, c, e, _, hK, hc0⟩ := Kd.C_get h z43 (i : Int) (by omega) (by omega)
  rw [Int.toNat_natCast] at hc0 hK
  have hg : xs.getD i z43 = xs[i] := by simp [List.getD_eq_getElem?_getD, List.getElem?_eq_getElem h1]
  rw [hg] at hK
  have hc : ∀ j u, c[j]? = some u → w.cell? (ad.add (i * 2 + j)) = some u := hc0
  obtain rfl := k43_open hK
  exact ⟨ad, e, hc 0 _ rfl, by rw [← add_field _ _ 1 (by omega)]; exact hc 1 _ rfl⟩
theorem nd_taken.find_end (opt : Int) : nd_taken.find opt [] = none := rfl
theorem nd_taken.find_at {opt : Int} {l : List S43} {i : Nat} (h : i < l.length) : nd_taken.find opt (l.drop i) = if l[i].f0 = opt ∧ l[i].f1.size = 6 then some l[i] else nd_taken.find opt (l.drop (i + 1)) := by
  unfold nd_taken.find
  rw [List.drop_eq_getElem_cons h, List.find?_cons]
  by_cases hc : l[i].f0 = opt ∧ l[i].f1.size = 6
  · rw [if_pos hc]; simp [hc.1, hc.2]
  · rw [if_neg hc]
    have : (l[i].f0 == opt && l[i].f1.size == 6) = false := by
      cases h1 : (l[i].f0 == opt && l[i].f1.size == 6)
      · rfl
      · exfalso; apply hc; simpa using h1
    rw [this]
set_option maxHeartbeats 2000000 in
set_option maxRecDepth 100000 in
theorem nd_taken.main (k : Nat) (kind rest : Int) (s : ByteArray) (opt : Int) (r : Bool × Int × Int × Bool × Int × Int) (w : World) (hf : nd_taken.f k true kind 0 rest s kind opt = some r) (hs16 : ¬ s.size < 16) :
  Calls Try.prog 22 #[.agg #[.bool true, .int .i64 kind, .int .i64 0, .int .i64 rest, .string s], .int .i64 kind, .int .i64 opt] w fun x w' => x = .returned (nd_taken.v r) ∧ Below w.heap.size w w' := by
 unfold nd_taken.f at hf
 rw [if_neg (by simp), if_neg hs16] at hf
 by_cases hbig : 140737488355200 < s.size
 · rw [if_pos hbig] at hf; cases hf
 rw [if_neg hbig] at hf
 obtain ⟨⟨b1, hi, lo, e0⟩, h1, hf⟩ := Option.bind_eq_some_iff.1 hf
 obtain ⟨y, h2, hf⟩ := Option.bind_eq_some_iff.1 hf
 have HOF := Aside0.mk h1; have HMAY := Aside0.mk h2; have HF := Aside0.mk hf; have HSZ := Aside0.mk hbig
 clear h1 h2 hf
 have hu1 := Try.underlying32
 have hu2 := Try.underlying24
 have hu3 := Try.underlying43
 have kb := fun s W => print_bytes (P := Try.prog) 9 49 5 Try.underlying9 Try.underlying49 Try.underlying5 s W
 have hs1 : ¬ (s.size : Int) < 16 := by omega
 have hi16 : ((16 : Int) ≤ (s.size : Int)) = True := eq_true (by omega)
 have hmin16 : min 16 s.size = 16 := by omega
 clear hbig hs16
 go_enter Try.func22, Try.ntmps22
 go_wp2_with fail
 obtain ⟨L, hL⟩ : ∃ L, bytesOf (s.extract 0 16) = L := ⟨_, rfl⟩
 have hl16 : L.length = 16 := by rw [← hL, bytesOf_length]; simp; omega
 have e16 : (s.extract 0 16).size = 16 := by simp; omega
 have hC := MStr.C_bytes ((w.alloc (.cells #[.bool true, .int .i64 kind, .int .i64 0, .int .i64 rest, .string s] 32)).alloc (.cells #[.bool false, .int .u64 0, .int .u64 0] 24)) 5 (s.extract 0 16) (by omega)
 rw [hL, e16] at hC
 rw [hL] at HOF
 have hcall := addr_Of.calls k (some ⟨w.heap.size + 1 + 1, 0, none⟩) (grownCap ((w.alloc (.cells #[.bool true, .int .i64 kind, .int .i64 0, .int .i64 rest, .string s] 32)).alloc (.cells #[.bool false, .int .u64 0, .int .u64 0] 24)) 16 0 5) L b1 hi lo e0 _ (by rw [hl16]; simpa using hC) (by rw [hl16]; exact grownCap_ge _ _ _ _) HOF.out
 rw [hl16] at hcall
 refine hcall.mono ?_
 clear hcall hC hl16 e16 hL
 rintro e w3 ⟨rfl, hb⟩
 replace hb := below_step (bytes_below (Below.refl _ _) (Nat.le_refl _) 5 _) hb
 have HKM := Aside0.mk (MStr.block_below (MStr.block_below (heap_alloc_new w (.cells #[.bool true, .int .i64 kind, .int .i64 0, .int .i64 rest, .string s] 32)) (below_alloc (Below.refl _ _) _)) hb)
 have HK6 := Aside0.mk (MStr.block_below (MStr.alloc2_new w _ _) hb)
 have HB := Aside0.mk (show Below w.heap.size w w3 from below_step (by go_grown) hb)
 have HZ3 := Aside0.mk (Array.getElem?_eq_some_iff.1 HK6.out).1
 clear hb
 go_wp2_with fail
 refine (nd_may.calls b1 hi lo false 0 y _ HMAY.out).mono ?_
 rintro e w4 ⟨rfl, hb⟩
 have HKA := Aside0.mk (MStr.block_below (heap_alloc_new w3 _) hb)
 replace hb := below_step (below_alloc (Below.refl _ _) _) hb
 replace HKM := Aside0.mk (MStr.block_below HKM.out hb); replace HK6 := Aside0.mk (MStr.block_below HK6.out hb)
 replace HB := Aside0.mk (below_step HB.out hb)
 have HZ := Aside0.mk (show w.heap.size + 1 < w3.heap.size ∧ w3.heap.size < w4.heap.size from ⟨HZ3.out, (Array.getElem?_eq_some_iff.1 HKA.out).1⟩)
 clear hb HZ3
 cases y with
 | false =>
  obtain rfl := Option.some.inj ((if_pos rfl).symm.trans HF.out)
  obtain ⟨x0, x1, x2⟩ := MBlk.c3 HK6.out
  obtain ⟨f0, f1, f2⟩ := MBlk.f3 HK6.out
  go_wp2_with fail
  refine bodyPost_ret (results_cttt rfl _ _ _ 24 #[.bool false, .int .u64 0, .int .u64 0] (0, 0) _ rfl (put3 HK6.out _ _ _) Try.underlying24 rfl (by kernel_rfl)) rfl ⟨rfl, put3_below HB.out (by omega) _ _ _⟩
 | true =>
  have h0 := HF.out
  rw [if_neg (by decide)] at h0
  obtain ⟨⟨ol, oe⟩, h1, h2⟩ := Option.bind_eq_some_iff.1 h0
  have HOP := Aside0.mk h1; have HG := Aside0.mk h2
  obtain ⟨y0, y1, y2, y3, y4⟩ := MBlk.c5 HKM.out
  clear HF h0 h1 h2 y0 y1 y2 y3
  go_wp2_with fail
  refine (nd_Options.calls k (s.extract 16 s.size) ol oe _ HOP.out).mono ?_
  rintro e w5 ⟨v5, rfl, ho, hb⟩
  replace HKA := Aside0.mk (MStr.block_below HKA.out hb); replace HK6 := Aside0.mk (MStr.block_below HK6.out hb)
  replace HB := Aside0.mk (below_step HB.out hb)
  have HZ5 := Aside0.mk (show w3.heap.size < w5.heap.size from Nat.lt_of_lt_of_le HZ.out.2 hb.size)
  have HO := Aside0.mk (Kd.R_reads ho)
  clear hb ho y4
  obtain ⟨Ao, co, rfl, hoc, hol⟩ := HO.out
  have HOC := Aside0.mk hol
  clear hol hoc HO
  obtain ⟨x0, x1, x2⟩ := MBlk.c3 HK6.out
  obtain ⟨f0, f1, f2⟩ := MBlk.f3 HK6.out
  by_cases hoe : oe = 0
  · subst hoe
    have h3 := HG.out
    rw [if_neg (by simp)] at h3
    by_cases hob : 140737488355200 < ol.length
    · rw [if_pos hob] at h3; cases h3
    rw [if_neg hob] at h3
    have HMC := Aside0.mk h3; have HOB := Aside0.mk hob
    clear h3 hob HG x0 x1 x2 f0 f1 f2
    go_wp2_with fail
    go_loopg [65] ol.length (fun kq v65 w' => ∃ i : Nat, v65 = .int .i64 (i : Int) ∧ Aside0 (ol.length = i + kq) ∧ Aside0 (nd_taken.find opt (ol.drop i) = nd_taken.find opt ol) ∧ Aside0 (Below w5.heap.size w5 w'))
    case atStart => exact ⟨0, rfl, ⟨by omega⟩, ⟨rfl⟩, ⟨Below.refl _ _⟩⟩
    case round =>
      obtain ⟨i, rfl, HI, HE, HB5⟩ := hrel
      have hi_ := HI.out
      have HAr := Aside0.mk (MStr.block_below HKA.out HB5.out); have H6r := Aside0.mk (MStr.block_below HK6.out HB5.out)
      cases gk with
      | zero =>
        have hge : (ol.length : Int) ≤ (i : Int) := by omega
        have hnone : nd_taken.find opt ol = none := by
          have h1 := HE.out
          rw [List.drop_eq_nil_of_le (by omega)] at h1
          exact h1.symm
        have hr := HMC.out
        unfold nd_taken.mac at hr
        rw [hnone] at hr
        obtain rfl := Option.some.inj hr
        clear hi_ hr hnone HMC HE
        obtain ⟨x0, x1, x2⟩ := MBlk.c3 H6r.out
        obtain ⟨f0, f1, f2⟩ := MBlk.f3 H6r.out
        obtain ⟨a0, a1, a2⟩ := MBlk.c3 HAr.out
        go_wp2_with fail
        refine bodyPost_ret (results_cttt rfl _ _ _ 24 #[.bool b1, .int .u64 hi, .int .u64 lo] (0, 0) _ rfl (put3 H6r.out _ _ _) Try.underlying24 rfl (by kernel_rfl)) rfl ⟨rfl, put3_below (below_step HB.out HB5.out) (by omega) _ _ _⟩
      | succ d =>
        have hlt : (i : Int) < (ol.length : Int) := by omega
        have hi0 : i < ol.length := by omega
        obtain ⟨ad0, e0_, hx0, hx1⟩ := at_opt HOC.out hi0
        subst e0_
        have hfa := nd_taken.find_at (opt := opt) hi0
        obtain ⟨xk, hxk⟩ : ∃ xk, ol[i].f0 = xk := ⟨_, rfl⟩
        obtain ⟨xd, hxd⟩ : ∃ xd, ol[i].f1 = xd := ⟨_, rfl⟩
        obtain ⟨xx, hxx⟩ : ∃ xx, ol[i] = xx := ⟨_, rfl⟩
        rw [hxk] at hx0; rw [hxd] at hx1; rw [hxk, hxd] at hfa
        have HXD := Aside0.mk (show ol[i].f1 = xd from hxd)
        have HFA := Aside0.mk hfa
        obtain ⟨ji, hji⟩ : ∃ ji : Int, (i : Int) = ji := ⟨_, rfl⟩
        rw [show i * 2 = ji.toNat * 2 by omega] at hx0 hx1
        have q0 : (0 : Int) ≤ ji := by omega
        have HJ := Aside0.mk hji
        replace hx0 := pw_cell_below HB5.out hx0
        replace hx1 := pw_cell_below HB5.out hx1
        rw [hji] at hlt ⊢
        have hob := HOB.out
        clear hfa hxk hxd hxx hi_ hji
        by_cases hkk : xk = opt
        · subst hkk
          by_cases h6 : (xd.size : Int) = 6
          · have hfind : nd_taken.find xk ol = some ol[i] := by rw [← HE.out, HFA.out, if_pos ⟨rfl, by omega⟩]
            have hr := HMC.out
            unfold nd_taken.mac at hr
            rw [hfind] at hr
            simp only at hr
            rw [HXD.out] at hr
            obtain ⟨⟨n1, n2⟩, hn, hr⟩ := Option.bind_eq_some_iff.1 hr
            obtain rfl := Option.some.inj hr
            have HN := Aside0.mk hn
            have HS6 := Aside0.mk h6
            have d6 : ((xd.size : Int) == 6) = true := by simpa using h6
            clear hr hn hfind HMC HE HFA h6
            go_wp2_with fail
            obtain ⟨LL, hLL⟩ : ∃ LL, bytesOf xd = LL := ⟨_, rfl⟩
            have hl6 : LL.length = xd.size := by rw [← hLL, bytesOf_length]
            have hC := MStr.C_bytes (wr.alloc (.cells #[.int .i64 xk, .string xd] 43)) 5 xd (by have := HS6.out; omega)
            rw [hLL] at hC HN
            have hcall := octet_Get.calls k (some ⟨wr.heap.size + 1, 0, none⟩) (grownCap (wr.alloc (.cells #[.int .i64 xk, .string xd] 43)) xd.size 0 5) LL 0 6 n1 n2 _ (by rw [hl6]; simpa using hC) (by rw [hl6]; exact grownCap_ge _ _ _ _) HN.out
            rw [hl6] at hcall
            refine hcall.mono ?_
            clear hcall hC hl6 hLL hx0 hx1
            rintro e w9 ⟨rfl, ⟨nd, rfl⟩⟩
            have hb9 : Below wr.heap.size wr ((Lib.bytesWorld (wr.alloc (.cells #[.int .i64 xk, .string xd] 43)) 5 xd).drewN nd) := pw_below_drewN (bytes_below (below_alloc (Below.refl _ _) _) (by simp) 5 _) _
            generalize hW : ((Lib.bytesWorld (wr.alloc (.cells #[.int .i64 xk, .string xd] 43)) 5 xd).drewN nd) = wz at hb9 ⊢
            have H6z := Aside0.mk (MStr.block_below H6r.out hb9); have HAz := Aside0.mk (MStr.block_below HAr.out hb9)
            have HBz := Aside0.mk (below_step (below_step HB.out HB5.out) hb9)
            clear hW hb9
            obtain ⟨x0, x1, x2⟩ := MBlk.c3 H6z.out
            obtain ⟨f0, f1, f2⟩ := MBlk.f3 H6z.out
            obtain ⟨a0, a1, a2⟩ := MBlk.c3 HAz.out
            go_wp2_with fail
            refine bodyPost_ret (results_cttt rfl _ _ _ 24 #[.bool b1, .int .u64 hi, .int .u64 lo] (0, 0) _ rfl (put3 H6z.out _ _ _) Try.underlying24 rfl (by kernel_rfl)) rfl ⟨rfl, put3_below HBz.out (by omega) _ _ _⟩
          · have hno : nd_taken.find xk (ol.drop i) = nd_taken.find xk (ol.drop (i + 1)) := by rw [HFA.out, if_neg (fun h => h6 (by omega))]
            have HNO := Aside0.mk hno
            clear hno
            go_wp2_with fail
            go_roundg d
            case measure => omega
            case rel => exact ⟨i + 1, by have := HJ.out; go_num, ⟨by have := HI.out; omega⟩, ⟨by rw [← HNO.out]; exact HE.out⟩, ⟨(by repeat (first | (with_reducible first | exact HB5.out | apply below_alloc | apply pw_below_drewN | apply below_drew1) | exact HB5.out))⟩⟩
        · have hno : nd_taken.find opt (ol.drop i) = nd_taken.find opt (ol.drop (i + 1)) := by rw [HFA.out, if_neg (fun h => hkk h.1)]
          have HNO := Aside0.mk hno
          clear hno
          go_wp2_with fail
          go_roundg d
          case measure => omega
          case rel => exact ⟨i + 1, by have := HJ.out; go_num, ⟨by have := HI.out; omega⟩, ⟨by rw [← HNO.out]; exact HE.out⟩, ⟨(by repeat (first | (with_reducible first | exact HB5.out | apply below_alloc | apply pw_below_drewN | apply below_drew1) | exact HB5.out))⟩⟩
  · have h3 := HG.out
    rw [if_pos hoe] at h3
    obtain rfl := Option.some.inj h3
    clear h3 HG
    go_wp2_with fail
    refine bodyPost_ret (results_cttt rfl _ _ _ 24 #[.bool false, .int .u64 0, .int .u64 0] (0, 0) _ rfl (put3 HK6.out _ _ _) Try.underlying24 rfl (by kernel_rfl)) rfl ⟨rfl, put3_below HB.out (by omega) _ _ _⟩
theorem nd_taken.calls (k : Nat) (a0_0 : Bool) (a0_1 a0_2 a0_3 : Int) (a0_4 : ByteArray) (a1 a2 : Int) (r1 : Bool) (r2 : Int) (r3 : Int) (r4 : Bool) (r5 : Int) (r6 : Int) (w : World) (h : nd_taken.f k a0_0 a0_1 a0_2 a0_3 a0_4 a1 a2 = some (r1, r2, r3, r4, r5, r6)) :
  Calls Try.prog 22 #[.agg #[.bool a0_0, .int .i64 a0_1, .int .i64 a0_2, .int .i64 a0_3, .string a0_4], .int .i64 a1, .int .i64 a2] w fun e w' => e = .returned (.tuple #[.agg #[.bool r1, .int .u64 r2, .int .u64 r3], .bool r4, .int .u64 r5, .int .i64 r6]) ∧ Below w.heap.size w w' := by
 by_cases h1 : a0_0 = false ∨ a0_1 ≠ a1 ∨ a0_2 ≠ 0
 · unfold nd_taken.f at h
   rw [if_pos h1] at h
   have e := Option.some.inj h
   unfold nd_taken.no at e
   simp only [Prod.mk.injEq] at e
   obtain ⟨rfl, rfl, rfl, rfl, rfl, rfl⟩ := e
   exact nd_taken.early a0_0 a0_1 a0_2 a0_3 a0_4 a1 a2 80 w (.inl ⟨rfl, h1⟩)
 have h2 : a0_0 = true ∧ a0_1 = a1 ∧ a0_2 = 0 := by
  simp only [not_or, ne_eq, Bool.not_eq_false, Classical.not_not] at h1
  exact h1
 obtain ⟨rfl, rfl, rfl⟩ := h2
 by_cases h3 : a0_4.size < 16
 · unfold nd_taken.f at h
   rw [if_neg h1, if_pos h3] at h
   have e := Option.some.inj h
   unfold nd_taken.no at e
   simp only [Prod.mk.injEq] at e
   obtain ⟨rfl, rfl, rfl, rfl, rfl, rfl⟩ := e
   exact nd_taken.early true a0_1 0 a0_3 a0_4 a0_1 a2 81 w (.inr ⟨rfl, rfl, rfl, rfl, h3⟩)
 · exact nd_taken.main k a0_1 a0_3 a0_4 a2 _ w h h3

/-! ### nd_TakeAsk: function 16 -/
def nd_TakeAsk.f (k : Nat) (a0_0 : Bool) (a0_1 : Int) (a0_2 : Int) (a0_3 : Int) (a0_4 : ByteArray) : Option (Bool × Int × Int × Bool × Int × Int) := (nd_taken.f k a0_0 a0_1 a0_2 a0_3 a0_4 135 1).bind fun bt128 => (some (bt128.1, bt128.2.1, bt128.2.2.1, bt128.2.2.2.1, bt128.2.2.2.2.1, bt128.2.2.2.2.2))
theorem nd_TakeAsk.mono : ∀ a0 a1 a2 a3 a4 k, LeO (nd_TakeAsk.f k a0 a1 a2 a3 a4) (nd_TakeAsk.f (k + 1) a0 a1 a2 a3 a4) := by
 intro a0 a1 a2 a3 a4 k
 unfold nd_TakeAsk.f
 repeat' first
   | (with_reducible exact nd_taken.mono _ _ _ _ _ _ _ _)
   | (with_reducible exact LeO.refl _)
   | (with_reducible exact LeO.none _)
   | (with_reducible refine LeO.ite ?_ ?_)
   | (with_reducible refine LeO.bind ?_ (fun _ => ?_))
   | exact nd_taken.mono _ _ _ _ _ _ _ _
   | exact LeO.none _
   | refine LeO.ite ?_ ?_
   | refine LeO.bind ?_ (fun _ => ?_)
set_option maxHeartbeats 8000000 in
set_option maxRecDepth 100000 in
theorem nd_TakeAsk.calls (k : Nat) (a0_0 : Bool) (a0_1 : Int) (a0_2 : Int) (a0_3 : Int) (a0_4 : ByteArray) (r1 : Bool) (r2 : Int) (r3 : Int) (r4 : Bool) (r5 : Int) (r6 : Int) (w : World) (h : nd_TakeAsk.f k a0_0 a0_1 a0_2 a0_3 a0_4 = some (r1, r2, r3, r4, r5, r6)) :
  Calls Try.prog 16 #[.agg #[.bool a0_0, .int .i64 a0_1, .int .i64 a0_2, .int .i64 a0_3, .string a0_4]] w fun e w' => e = .returned (.tuple #[.agg #[.bool r1, .int .u64 r2, .int .u64 r3, .bool r4, .int .u64 r5], .int .i64 r6]) ∧ Below w.heap.size w w' := by
 have hu32 := Try.underlying32
 have hu27 := Try.underlying27
 have hu24 := Try.underlying24
 have HB := Aside0.mk (Below.refl w.heap.size w)
 have H : ((nd_taken.f k a0_0 a0_1 a0_2 a0_3 a0_4 135 1).bind fun bt128 => (some (bt128.1, bt128.2.1, bt128.2.2.1, bt128.2.2.2.1, bt128.2.2.2.2.1, bt128.2.2.2.2.2))) = some (r1, r2, r3, r4, r5, r6) := h
 clear h
 replace H := Option.bind_eq_some_iff.mp H
 obtain ⟨⟨t128, t129, t130, t131, t132, t133⟩, A20, H⟩ := H
 replace H : (some (t128, t129, t130, t131, t132, t133)) = some (r1, r2, r3, r4, r5, r6) := H
 have A2 := Aside0.mk A20
 clear A20
 simp only [Option.some.injEq, Prod.mk.injEq] at H
 obtain ⟨rfl, rfl, rfl, rfl, rfl, rfl⟩ := H
 go_enter Try.func16, Try.ntmps16
 go_wp2_with (first | ((with_reducible refine gate_dst (N := 1) rfl ?_); refine box_event ?hg (N := 1) ?hd (cs := #[.bool a0_0, .int .i64 a0_1, .int .i64 a0_2, .int .i64 a0_3, .string a0_4]) (t := 32) ?hr ?_; (case hd => rfl); (case hg => rfl); (case hr => first | (go_simp; done) | (go_simp; rfl)); intro gb126 hg w3 hbox hb; have n0_ := Aside0.mk (below_step (by repeat (first | (with_reducible first | exact HB.out | apply below_alloc | apply pw_below_drewN | apply below_drew1) | exact HB.out)) hb); have n1_ := Aside0.mk (hbox); have n2_ := Aside0.mk ((by rw [hg]; exact (below_size (by repeat (first | (with_reducible first | exact HB.out | apply below_alloc | apply pw_below_drewN | apply below_drew1) | exact HB.out))) : w.heap.size ≤ gb126)); have n3_ := Aside0.mk ((by rw [hg]; exact (below_size (by repeat (first | (with_reducible first | exact HB.out | apply below_alloc | apply pw_below_drewN | apply below_drew1) | exact HB.out))) : w.heap.size ≤ gb126)); clear HB; have HB := n0_; have BK126 := n1_; have GW126 := n2_; have GE126 := n3_; clear n0_ n1_ n2_ n3_; clear hb hbox hg) | ((with_reducible refine gate_dst (N := 2) rfl ?_); refine box_event ?hg (N := 2) ?hd (cs := #[.bool false, .int .u64 0, .int .u64 0, .bool false, .int .u64 0]) (t := 27) ?hr ?_; (case hd => rfl); (case hg => rfl); (case hr => first | (go_simp; done) | (go_simp; rfl)); intro gb127 hg w4 hbox hb; have n0_ := Aside0.mk (blk_below (g := gb126) (o := .cells #[.bool a0_0, .int .i64 a0_1, .int .i64 a0_2, .int .i64 a0_3, .string a0_4] 32 (0, 0)) (by (with_reducible repeat (first | refine blk_drewN ?_ _ | refine blk_drew ?_ | refine blk_alloc ?_ _)); exact BK126.out) hb); have n1_ := Aside0.mk (below_step (by repeat (first | (with_reducible first | exact HB.out | apply below_alloc | apply pw_below_drewN | apply below_drew1 | refine below_set ?_ GE126.out) | exact HB.out)) hb); have n2_ := Aside0.mk (hbox); have n3_ := Aside0.mk ((by rw [hg]; exact (below_size (by repeat (first | (with_reducible first | exact HB.out | apply below_alloc | apply pw_below_drewN | apply below_drew1 | refine below_set ?_ GE126.out) | exact HB.out))) : w.heap.size ≤ gb127)); have n4_ := Aside0.mk ((by rw [hg]; exact (below_size (by repeat (first | (with_reducible first | exact HB.out | apply below_alloc | apply pw_below_drewN | apply below_drew1 | refine below_set ?_ GE126.out) | exact HB.out))) : w.heap.size ≤ gb127)); have n5_ := Aside0.mk ((by rw [hg]; exact Nat.ne_of_lt (blk_lt (g := gb126) (o := .cells #[.bool a0_0, .int .i64 a0_1, .int .i64 a0_2, .int .i64 a0_3, .string a0_4] 32 (0, 0)) (by (with_reducible repeat (first | refine blk_drewN ?_ _ | refine blk_drew ?_ | refine blk_alloc ?_ _)); exact BK126.out)) : gb126 ≠ gb127)); have n6_ := Aside0.mk ((by rw [hg]; exact Nat.ne_of_gt (blk_lt (g := gb126) (o := .cells #[.bool a0_0, .int .i64 a0_1, .int .i64 a0_2, .int .i64 a0_3, .string a0_4] 32 (0, 0)) (by (with_reducible repeat (first | refine blk_drewN ?_ _ | refine blk_drew ?_ | refine blk_alloc ?_ _)); exact BK126.out)) : gb127 ≠ gb126)); clear BK126; clear HB; have BK126 := n0_; have HB := n1_; have BK127 := n2_; have GW127 := n3_; have GE127 := n4_; have NB126_127 := n5_; have NB127_126 := n6_; clear n0_ n1_ n2_ n3_ n4_ n5_ n6_; clear hb hbox hg; have hnb5 := NB126_127.out; have hnc5 := NB127_126.out; obtain ⟨hcz6_0, hcz6_1, hcz6_2, hcz6_3, hcz6_4⟩ := MBlk.c5 BK126.out; obtain ⟨hfz6_0, hfz6_1, hfz6_2, hfz6_3, hfz6_4⟩ := MBlk.f5 BK126.out) | ((with_reducible refine gate_callee (f := 22) rfl ?_); refine goesL_ (some 10) rfl rfl Try.func22 (by kernel_rfl) rfl #[.agg #[.bool a0_0, .int .i64 a0_1, .int .i64 a0_2, .int .i64 a0_3, .string a0_4], .int .i64 135, .int .i64 1] rfl (by (try simp only [List.map_toArray, List.map_cons, List.map_nil]); first | done | rfl | (simp only [List.length_drop, List.length_take]; rfl)) ?_; (with_reducible refine (nd_taken.calls k a0_0 a0_1 a0_2 a0_3 a0_4 135 1 t128 t129 t130 t131 t132 t133 _ A2.out).mono ?_); rintro e w7 ⟨rfl, hb⟩; refine ⟨_, rfl, ?_⟩; have n0_ := Aside0.mk (blk_below (g := gb126) (o := .cells #[.bool a0_0, .int .i64 a0_1, .int .i64 a0_2, .int .i64 a0_3, .string a0_4] 32 (0, 0)) (by (with_reducible repeat (first | refine blk_drewN ?_ _ | refine blk_drew ?_ | refine blk_alloc ?_ _)); exact BK126.out) hb); have n1_ := Aside0.mk (blk_below (g := gb127) (o := .cells #[.bool false, .int .u64 0, .int .u64 0, .bool false, .int .u64 0] 27 (0, 0)) (by (with_reducible repeat (first | refine blk_drewN ?_ _ | refine blk_drew ?_ | refine blk_alloc ?_ _)); exact BK127.out) hb); have n2_ := Aside0.mk (below_step (by repeat (first | (with_reducible first | exact HB.out | apply below_alloc | apply pw_below_drewN | apply below_drew1 | refine below_set ?_ GE126.out | refine below_set ?_ GE127.out) | exact HB.out)) hb); clear BK126; clear BK127; clear HB; have BK126 := n0_; have BK127 := n1_; have HB := n2_; clear n0_ n1_ n2_; (try clear hb); (try clear hb2); (try clear hk); (try clear hi)) | ((with_reducible refine gate_dst (N := 4) rfl ?_); refine box_event ?hg (N := 4) ?hd (cs := #[.bool false, .int .u64 0, .int .u64 0]) (t := 24) ?hr ?_; (case hd => rfl); (case hg => rfl); (case hr => first | (go_simp; done) | (go_simp; rfl)); intro gb134 hg w8 hbox hb; have n0_ := Aside0.mk (blk_below (g := gb126) (o := .cells #[.bool a0_0, .int .i64 a0_1, .int .i64 a0_2, .int .i64 a0_3, .string a0_4] 32 (0, 0)) (by (with_reducible repeat (first | refine blk_drewN ?_ _ | refine blk_drew ?_ | refine blk_alloc ?_ _)); exact BK126.out) hb); have n1_ := Aside0.mk (blk_below (g := gb127) (o := .cells #[.bool false, .int .u64 0, .int .u64 0, .bool false, .int .u64 0] 27 (0, 0)) (by (with_reducible repeat (first | refine blk_drewN ?_ _ | refine blk_drew ?_ | refine blk_alloc ?_ _)); exact BK127.out) hb); have n2_ := Aside0.mk (below_step (by repeat (first | (with_reducible first | exact HB.out | apply below_alloc | apply pw_below_drewN | apply below_drew1 | refine below_set ?_ GE126.out | refine below_set ?_ GE127.out) | exact HB.out)) hb); have n3_ := Aside0.mk (hbox); have n4_ := Aside0.mk ((by rw [hg]; exact (below_size (by repeat (first | (with_reducible first | exact HB.out | apply below_alloc | apply pw_below_drewN | apply below_drew1 | refine below_set ?_ GE126.out | refine below_set ?_ GE127.out) | exact HB.out))) : w.heap.size ≤ gb134)); have n5_ := Aside0.mk ((by rw [hg]; exact (below_size (by repeat (first | (with_reducible first | exact HB.out | apply below_alloc | apply pw_below_drewN | apply below_drew1 | refine below_set ?_ GE126.out | refine below_set ?_ GE127.out) | exact HB.out))) : w.heap.size ≤ gb134)); have n6_ := Aside0.mk ((by rw [hg]; exact Nat.ne_of_lt (blk_lt (g := gb126) (o := .cells #[.bool a0_0, .int .i64 a0_1, .int .i64 a0_2, .int .i64 a0_3, .string a0_4] 32 (0, 0)) (by (with_reducible repeat (first | refine blk_drewN ?_ _ | refine blk_drew ?_ | refine blk_alloc ?_ _)); exact BK126.out)) : gb126 ≠ gb134)); have n7_ := Aside0.mk ((by rw [hg]; exact Nat.ne_of_gt (blk_lt (g := gb126) (o := .cells #[.bool a0_0, .int .i64 a0_1, .int .i64 a0_2, .int .i64 a0_3, .string a0_4] 32 (0, 0)) (by (with_reducible repeat (first | refine blk_drewN ?_ _ | refine blk_drew ?_ | refine blk_alloc ?_ _)); exact BK126.out)) : gb134 ≠ gb126)); have n8_ := Aside0.mk ((by rw [hg]; exact Nat.ne_of_lt (blk_lt (g := gb127) (o := .cells #[.bool false, .int .u64 0, .int .u64 0, .bool false, .int .u64 0] 27 (0, 0)) (by (with_reducible repeat (first | refine blk_drewN ?_ _ | refine blk_drew ?_ | refine blk_alloc ?_ _)); exact BK127.out)) : gb127 ≠ gb134)); have n9_ := Aside0.mk ((by rw [hg]; exact Nat.ne_of_gt (blk_lt (g := gb127) (o := .cells #[.bool false, .int .u64 0, .int .u64 0, .bool false, .int .u64 0] 27 (0, 0)) (by (with_reducible repeat (first | refine blk_drewN ?_ _ | refine blk_drew ?_ | refine blk_alloc ?_ _)); exact BK127.out)) : gb134 ≠ gb127)); clear BK126; clear BK127; clear HB; have BK126 := n0_; have BK127 := n1_; have HB := n2_; have BK134 := n3_; have GW134 := n4_; have GE134 := n5_; have NB126_134 := n6_; have NB134_126 := n7_; have NB127_134 := n8_; have NB134_127 := n9_; clear n0_ n1_ n2_ n3_ n4_ n5_ n6_ n7_ n8_ n9_; clear hb hbox hg; have hnb9 := NB134_126.out; have hnc9 := NB126_134.out; have hnb10 := NB134_127.out; have hnc10 := NB127_134.out; obtain ⟨hcz11_0, hcz11_1, hcz11_2⟩ := MBlk.c3 BK134.out; obtain ⟨hfz11_0, hfz11_1, hfz11_2⟩ := MBlk.f3 BK134.out; obtain ⟨hcz12_0, hcz12_1, hcz12_2, hcz12_3, hcz12_4⟩ := MBlk.c5 BK127.out; obtain ⟨hfz12_0, hfz12_1, hfz12_2, hfz12_3, hfz12_4⟩ := MBlk.f5 BK127.out))
 refine bodyPost_ret (results_ct rfl _ _ gb127 27 #[.bool t128, .int .u64 t129, .int .u64 t130, .bool t131, .int .u64 t132] (0, 0) _ rfl (by (with_reducible repeat (first | refine blk_drewN ?_ _ | refine blk_drew ?_ | refine blk_alloc ?_ _)); refine blk_put (cs := #[.bool t128, .int .u64 t129, .int .u64 t130, .bool t131, .int .u64 0]) ?_ 4 _ rfl; (with_reducible repeat (first | refine blk_drewN ?_ _ | refine blk_drew ?_ | refine blk_alloc ?_ _)); refine blk_put (cs := #[.bool t128, .int .u64 t129, .int .u64 t130, .bool false, .int .u64 0]) ?_ 3 _ rfl; (with_reducible repeat (first | refine blk_drewN ?_ _ | refine blk_drew ?_ | refine blk_alloc ?_ _)); refine blk_put (cs := #[.bool t128, .int .u64 t129, .int .u64 0, .bool false, .int .u64 0]) ?_ 2 _ rfl; (with_reducible repeat (first | refine blk_drewN ?_ _ | refine blk_drew ?_ | refine blk_alloc ?_ _)); refine blk_put (cs := #[.bool t128, .int .u64 0, .int .u64 0, .bool false, .int .u64 0]) ?_ 1 _ rfl; (with_reducible repeat (first | refine blk_drewN ?_ _ | refine blk_drew ?_ | refine blk_alloc ?_ _)); refine blk_put (cs := #[.bool false, .int .u64 0, .int .u64 0, .bool false, .int .u64 0]) ?_ 0 _ rfl; (with_reducible repeat (first | refine blk_drewN ?_ _ | refine blk_drew ?_ | refine blk_alloc ?_ _)); refine blk_far ?_ NB127_134.out _; (with_reducible repeat (first | refine blk_drewN ?_ _ | refine blk_drew ?_ | refine blk_alloc ?_ _)); refine blk_far ?_ NB127_134.out _; (with_reducible repeat (first | refine blk_drewN ?_ _ | refine blk_drew ?_ | refine blk_alloc ?_ _)); refine blk_far ?_ NB127_134.out _; (with_reducible repeat (first | refine blk_drewN ?_ _ | refine blk_drew ?_ | refine blk_alloc ?_ _)); exact BK127.out) Try.underlying27 rfl (by kernel_rfl)) rfl ?_
 exact ⟨by first | rfl | (simp [errW_none, errW_some] <;> rfl) | (simp [*, errW_none, errW_some] <;> rfl), by repeat (first | (with_reducible first | exact HB.out | apply below_alloc | apply pw_below_drewN | apply below_drew1 | refine below_set ?_ GE126.out | refine below_set ?_ GE127.out | refine below_set ?_ GE134.out) | exact HB.out)⟩

end Go.Proofs.Ytkpncagfhiceoaa.PBase
