/- Functions of the program as Lean functions, each with a proof that a call comes to what it says. Conditions: those of each theorem. Laid by a program of this session. -/
import Derived.Test.YtmkjeidejgbicaaPBasex0
import Derived.Test.YtmkjeidejgbicaaPBasex2
import Derived.Test.YtmkjeidejgbicaaPBasex3
namespace Go.Proofs.Ytmkjeidejgbicaa.PBase
open Go.RowKit Go.Proofs.Ytmkjeidejgbicaa Go.Proofs.YtmkjeidejgbicaaW.PrintWords Go.Proofs.YtmkjeidejgbicaaW.PrintLast Go.Proofs.YtmkjeidejgbicaaW.PrintMore
attribute [local go_sem] max2_int min2_int max_two min_two max_three min_three max_four min_four   -- for this text's walks alone
set_option linter.unusedVariables false
set_option linter.unusedSimpArgs false

/-! ### icmp_base_may: function 48 -/
def icmp_base_may.f (a0_0 : Bool) (a0_1 : Int) (a0_2 : Int) (a0_3 : Int) (a0_4 : ByteArray) (a0_5 : Bool) (a0_6 : Int) (a0_7 : Int) (a0_8 : Bool) (a0_9 : Int) (a0_10 : Int) : Option (Bool) := if a0_1 ≥ 0 then (if a0_1 < 256 then (if a0_2 ≥ 0 then (if a0_2 < 256 then (if a0_3 ≥ 0 then (if a0_3 < 4294967296 then (some (decide ((a0_4.size : Int) ≤ 65000))) else (some false)) else (some false)) else (some false)) else (some false)) else (some false)) else (some false)
set_option maxHeartbeats 8000000 in
set_option maxRecDepth 100000 in
theorem icmp_base_may.calls (a0_0 : Bool) (a0_1 : Int) (a0_2 : Int) (a0_3 : Int) (a0_4 : ByteArray) (a0_5 : Bool) (a0_6 : Int) (a0_7 : Int) (a0_8 : Bool) (a0_9 : Int) (a0_10 : Int) (r : Bool) (w : World) (h : icmp_base_may.f a0_0 a0_1 a0_2 a0_3 a0_4 a0_5 a0_6 a0_7 a0_8 a0_9 a0_10 = some r) :
  Calls Try.prog 48 #[.agg #[.bool a0_0, .int .i64 a0_1, .int .i64 a0_2, .int .i64 a0_3, .string a0_4, .bool a0_5, .int .u64 a0_6, .int .u64 a0_7, .bool a0_8, .int .u64 a0_9, .int .u64 a0_10]] w fun e w' => e = .returned (.bool r) ∧ Below w.heap.size w w' := by
 have hu58 := Try.underlying58
 have hu23 := Try.underlying23
 have HB := Aside0.mk (Below.refl w.heap.size w)
 have H : (if a0_1 ≥ 0 then (if a0_1 < 256 then (if a0_2 ≥ 0 then (if a0_2 < 256 then (if a0_3 ≥ 0 then (if a0_3 < 4294967296 then (some (decide ((a0_4.size : Int) ≤ 65000))) else (some false)) else (some false)) else (some false)) else (some false)) else (some false)) else (some false)) = some r := h
 clear h
 by_cases c2 : a0_1 ≥ 0
 ·
  rw [if_pos c2] at H
  have c2b0 : decide (0 ≤ a0_1) = true := decide_eq_true c2
  clear c2
  by_cases c3 : a0_1 < 256
  ·
   rw [if_pos c3] at H
   have c3b0 : decide (a0_1 < 256) = true := decide_eq_true c3
   clear c3
   by_cases c4 : a0_2 ≥ 0
   ·
    rw [if_pos c4] at H
    have c4b0 : decide (0 ≤ a0_2) = true := decide_eq_true c4
    clear c4
    by_cases c5 : a0_2 < 256
    ·
     rw [if_pos c5] at H
     have c5b0 : decide (a0_2 < 256) = true := decide_eq_true c5
     clear c5
     by_cases c6 : a0_3 ≥ 0
     ·
      rw [if_pos c6] at H
      have c6b0 : decide (0 ≤ a0_3) = true := decide_eq_true c6
      clear c6
      by_cases c7 : a0_3 < 4294967296
      ·
       rw [if_pos c7] at H
       have c7b0 : decide (a0_3 < 4294967296) = true := decide_eq_true c7
       clear c7
       obtain rfl := Option.some.inj H
       go_enter Try.func48, Try.ntmps48
       go_wp2_with (first | ((with_reducible refine gate_dst (N := 1) rfl ?_); (try (refine gate_guard (by rfl) ?_; dsimp only)); refine box_event ?hg (N := 1) ?hd (cs := #[.bool a0_0, .int .i64 a0_1, .int .i64 a0_2, .int .i64 a0_3, .string a0_4, .bool a0_5, .int .u64 a0_6, .int .u64 a0_7, .bool a0_8, .int .u64 a0_9, .int .u64 a0_10]) (t := 58) ?hr ?_; (case hd => rfl); (case hg => rfl); (case hr => first | (go_simp; done) | (go_simp; rfl)); intro gb149 hg w8 hbox hb; have n0_ := Aside0.mk (below_step (by repeat (first | (with_reducible first | exact HB.out | apply below_alloc | apply pw_below_drewN | apply below_drew1) | exact HB.out)) hb); have n1_ := Aside0.mk (hbox); have n2_ := Aside0.mk ((by rw [hg]; exact (below_size (by repeat (first | (with_reducible first | exact HB.out | apply below_alloc | apply pw_below_drewN | apply below_drew1) | exact HB.out))) : w.heap.size ≤ gb149)); have n3_ := Aside0.mk ((by rw [hg]; exact (below_size (by repeat (first | (with_reducible first | exact HB.out | apply below_alloc | apply pw_below_drewN | apply below_drew1) | exact HB.out))) : w.heap.size ≤ gb149)); clear HB; have HB := n0_; have BK149 := n1_; have GW149 := n2_; have GE149 := n3_; clear n0_ n1_ n2_ n3_; clear hb hbox hg; have hcz9_0 : w8.cell? ⟨gb149, 0, none⟩ = some (.bool a0_0) := (blk_cell BK149.out 0).trans rfl; have hcz9_1 : w8.cell? ⟨gb149, 1, none⟩ = some (.int .i64 a0_1) := (blk_cell BK149.out 1).trans rfl; have hcz9_2 : w8.cell? ⟨gb149, 2, none⟩ = some (.int .i64 a0_2) := (blk_cell BK149.out 2).trans rfl; have hcz9_3 : w8.cell? ⟨gb149, 3, none⟩ = some (.int .i64 a0_3) := (blk_cell BK149.out 3).trans rfl; have hcz9_4 : w8.cell? ⟨gb149, 4, none⟩ = some (.string a0_4) := (blk_cell BK149.out 4).trans rfl; have hcz9_5 : w8.cell? ⟨gb149, 5, none⟩ = some (.bool a0_5) := (blk_cell BK149.out 5).trans rfl; have hcz9_6 : w8.cell? ⟨gb149, 6, none⟩ = some (.int .u64 a0_6) := (blk_cell BK149.out 6).trans rfl; have hcz9_7 : w8.cell? ⟨gb149, 7, none⟩ = some (.int .u64 a0_7) := (blk_cell BK149.out 7).trans rfl; have hcz9_8 : w8.cell? ⟨gb149, 8, none⟩ = some (.bool a0_8) := (blk_cell BK149.out 8).trans rfl; have hcz9_9 : w8.cell? ⟨gb149, 9, none⟩ = some (.int .u64 a0_9) := (blk_cell BK149.out 9).trans rfl; have hcz9_10 : w8.cell? ⟨gb149, 10, none⟩ = some (.int .u64 a0_10) := (blk_cell BK149.out 10).trans rfl; have hfz9_0 := blk_frozen BK149.out 0; have hfz9_1 := blk_frozen BK149.out 1; have hfz9_2 := blk_frozen BK149.out 2; have hfz9_3 := blk_frozen BK149.out 3; have hfz9_4 := blk_frozen BK149.out 4; have hfz9_5 := blk_frozen BK149.out 5; have hfz9_6 := blk_frozen BK149.out 6; have hfz9_7 := blk_frozen BK149.out 7; have hfz9_8 := blk_frozen BK149.out 8; have hfz9_9 := blk_frozen BK149.out 9; have hfz9_10 := blk_frozen BK149.out 10) | ((with_reducible refine gate_dst (N := 3) rfl ?_); (try (refine gate_guard (by rfl) ?_; dsimp only)); refine box_event ?hg (N := 3) ?hd (cs := #[.bool false, .int .i64 0, .int .i64 0, .int .i64 0, .string (⟨#[]⟩ : ByteArray)]) (t := 23) ?hr ?_; (case hd => rfl); (case hg => rfl); (case hr => first | (go_simp; done) | (go_simp; rfl)); intro gb150 hg w10 hbox hb; have n0_ := Aside0.mk (blk_below (g := gb149) (o := .cells #[.bool a0_0, .int .i64 a0_1, .int .i64 a0_2, .int .i64 a0_3, .string a0_4, .bool a0_5, .int .u64 a0_6, .int .u64 a0_7, .bool a0_8, .int .u64 a0_9, .int .u64 a0_10] 58 (0, 0)) (by (with_reducible repeat (first | refine blk_drewN ?_ _ | refine blk_drew ?_ | refine blk_alloc ?_ _)); exact BK149.out) hb); have n1_ := Aside0.mk (below_step (by repeat (first | (with_reducible first | exact HB.out | apply below_alloc | apply pw_below_drewN | apply below_drew1 | refine below_set ?_ GE149.out) | exact HB.out)) hb); have n2_ := Aside0.mk (hbox); have n3_ := Aside0.mk ((by rw [hg]; exact (below_size (by repeat (first | (with_reducible first | exact HB.out | apply below_alloc | apply pw_below_drewN | apply below_drew1 | refine below_set ?_ GE149.out) | exact HB.out))) : w.heap.size ≤ gb150)); have n4_ := Aside0.mk ((by rw [hg]; exact (below_size (by repeat (first | (with_reducible first | exact HB.out | apply below_alloc | apply pw_below_drewN | apply below_drew1 | refine below_set ?_ GE149.out) | exact HB.out))) : w.heap.size ≤ gb150)); have n5_ := Aside0.mk ((by rw [hg]; exact Nat.ne_of_lt (blk_lt (g := gb149) (o := .cells #[.bool a0_0, .int .i64 a0_1, .int .i64 a0_2, .int .i64 a0_3, .string a0_4, .bool a0_5, .int .u64 a0_6, .int .u64 a0_7, .bool a0_8, .int .u64 a0_9, .int .u64 a0_10] 58 (0, 0)) (by (with_reducible repeat (first | refine blk_drewN ?_ _ | refine blk_drew ?_ | refine blk_alloc ?_ _)); exact BK149.out)) : gb149 ≠ gb150)); have n6_ := Aside0.mk ((by rw [hg]; exact Nat.ne_of_gt (blk_lt (g := gb149) (o := .cells #[.bool a0_0, .int .i64 a0_1, .int .i64 a0_2, .int .i64 a0_3, .string a0_4, .bool a0_5, .int .u64 a0_6, .int .u64 a0_7, .bool a0_8, .int .u64 a0_9, .int .u64 a0_10] 58 (0, 0)) (by (with_reducible repeat (first | refine blk_drewN ?_ _ | refine blk_drew ?_ | refine blk_alloc ?_ _)); exact BK149.out)) : gb150 ≠ gb149)); clear BK149; clear HB; have BK149 := n0_; have HB := n1_; have BK150 := n2_; have GW150 := n3_; have GE150 := n4_; have NB149_150 := n5_; have NB150_149 := n6_; clear n0_ n1_ n2_ n3_ n4_ n5_ n6_; clear hb hbox hg; have hnb11 := NB150_149.out; have hnc11 := NB149_150.out; have hcz12_0 : w10.cell? ⟨gb150, 0, none⟩ = some (.bool false) := (blk_cell BK150.out 0).trans rfl; have hcz12_1 : w10.cell? ⟨gb150, 1, none⟩ = some (.int .i64 0) := (blk_cell BK150.out 1).trans rfl; have hcz12_2 : w10.cell? ⟨gb150, 2, none⟩ = some (.int .i64 0) := (blk_cell BK150.out 2).trans rfl; have hcz12_3 : w10.cell? ⟨gb150, 3, none⟩ = some (.int .i64 0) := (blk_cell BK150.out 3).trans rfl; have hcz12_4 : w10.cell? ⟨gb150, 4, none⟩ = some (.string (⟨#[]⟩ : ByteArray)) := (blk_cell BK150.out 4).trans rfl; have hfz12_0 := blk_frozen BK150.out 0; have hfz12_1 := blk_frozen BK150.out 1; have hfz12_2 := blk_frozen BK150.out 2; have hfz12_3 := blk_frozen BK150.out 3; have hfz12_4 := blk_frozen BK150.out 4))
       go_ret
       exact ⟨by first | rfl | (simp [errW_none, errW_some] <;> rfl) | (simp [*, errW_none, errW_some] <;> rfl), by repeat (first | (with_reducible first | exact HB.out | apply below_alloc | apply pw_below_drewN | apply below_drew1 | refine below_set ?_ GE149.out | refine below_set ?_ GE150.out) | exact HB.out)⟩
      ·
       rw [if_neg c7] at H
       have c7b0 : decide (a0_3 < 4294967296) = false := decide_eq_false c7
       clear c7
       obtain rfl := Option.some.inj H
       go_enter Try.func48, Try.ntmps48
       go_wp2_with (first | ((with_reducible refine gate_dst (N := 1) rfl ?_); (try (refine gate_guard (by rfl) ?_; dsimp only)); refine box_event ?hg (N := 1) ?hd (cs := #[.bool a0_0, .int .i64 a0_1, .int .i64 a0_2, .int .i64 a0_3, .string a0_4, .bool a0_5, .int .u64 a0_6, .int .u64 a0_7, .bool a0_8, .int .u64 a0_9, .int .u64 a0_10]) (t := 58) ?hr ?_; (case hd => rfl); (case hg => rfl); (case hr => first | (go_simp; done) | (go_simp; rfl)); intro gb149 hg w13 hbox hb; have n0_ := Aside0.mk (below_step (by repeat (first | (with_reducible first | exact HB.out | apply below_alloc | apply pw_below_drewN | apply below_drew1) | exact HB.out)) hb); have n1_ := Aside0.mk (hbox); have n2_ := Aside0.mk ((by rw [hg]; exact (below_size (by repeat (first | (with_reducible first | exact HB.out | apply below_alloc | apply pw_below_drewN | apply below_drew1) | exact HB.out))) : w.heap.size ≤ gb149)); have n3_ := Aside0.mk ((by rw [hg]; exact (below_size (by repeat (first | (with_reducible first | exact HB.out | apply below_alloc | apply pw_below_drewN | apply below_drew1) | exact HB.out))) : w.heap.size ≤ gb149)); clear HB; have HB := n0_; have BK149 := n1_; have GW149 := n2_; have GE149 := n3_; clear n0_ n1_ n2_ n3_; clear hb hbox hg; have hcz14_0 : w13.cell? ⟨gb149, 0, none⟩ = some (.bool a0_0) := (blk_cell BK149.out 0).trans rfl; have hcz14_1 : w13.cell? ⟨gb149, 1, none⟩ = some (.int .i64 a0_1) := (blk_cell BK149.out 1).trans rfl; have hcz14_2 : w13.cell? ⟨gb149, 2, none⟩ = some (.int .i64 a0_2) := (blk_cell BK149.out 2).trans rfl; have hcz14_3 : w13.cell? ⟨gb149, 3, none⟩ = some (.int .i64 a0_3) := (blk_cell BK149.out 3).trans rfl; have hcz14_4 : w13.cell? ⟨gb149, 4, none⟩ = some (.string a0_4) := (blk_cell BK149.out 4).trans rfl; have hcz14_5 : w13.cell? ⟨gb149, 5, none⟩ = some (.bool a0_5) := (blk_cell BK149.out 5).trans rfl; have hcz14_6 : w13.cell? ⟨gb149, 6, none⟩ = some (.int .u64 a0_6) := (blk_cell BK149.out 6).trans rfl; have hcz14_7 : w13.cell? ⟨gb149, 7, none⟩ = some (.int .u64 a0_7) := (blk_cell BK149.out 7).trans rfl; have hcz14_8 : w13.cell? ⟨gb149, 8, none⟩ = some (.bool a0_8) := (blk_cell BK149.out 8).trans rfl; have hcz14_9 : w13.cell? ⟨gb149, 9, none⟩ = some (.int .u64 a0_9) := (blk_cell BK149.out 9).trans rfl; have hcz14_10 : w13.cell? ⟨gb149, 10, none⟩ = some (.int .u64 a0_10) := (blk_cell BK149.out 10).trans rfl; have hfz14_0 := blk_frozen BK149.out 0; have hfz14_1 := blk_frozen BK149.out 1; have hfz14_2 := blk_frozen BK149.out 2; have hfz14_3 := blk_frozen BK149.out 3; have hfz14_4 := blk_frozen BK149.out 4; have hfz14_5 := blk_frozen BK149.out 5; have hfz14_6 := blk_frozen BK149.out 6; have hfz14_7 := blk_frozen BK149.out 7; have hfz14_8 := blk_frozen BK149.out 8; have hfz14_9 := blk_frozen BK149.out 9; have hfz14_10 := blk_frozen BK149.out 10) | ((with_reducible refine gate_dst (N := 3) rfl ?_); (try (refine gate_guard (by rfl) ?_; dsimp only)); refine box_event ?hg (N := 3) ?hd (cs := #[.bool false, .int .i64 0, .int .i64 0, .int .i64 0, .string (⟨#[]⟩ : ByteArray)]) (t := 23) ?hr ?_; (case hd => rfl); (case hg => rfl); (case hr => first | (go_simp; done) | (go_simp; rfl)); intro gb150 hg w15 hbox hb; have n0_ := Aside0.mk (blk_below (g := gb149) (o := .cells #[.bool a0_0, .int .i64 a0_1, .int .i64 a0_2, .int .i64 a0_3, .string a0_4, .bool a0_5, .int .u64 a0_6, .int .u64 a0_7, .bool a0_8, .int .u64 a0_9, .int .u64 a0_10] 58 (0, 0)) (by (with_reducible repeat (first | refine blk_drewN ?_ _ | refine blk_drew ?_ | refine blk_alloc ?_ _)); exact BK149.out) hb); have n1_ := Aside0.mk (below_step (by repeat (first | (with_reducible first | exact HB.out | apply below_alloc | apply pw_below_drewN | apply below_drew1 | refine below_set ?_ GE149.out) | exact HB.out)) hb); have n2_ := Aside0.mk (hbox); have n3_ := Aside0.mk ((by rw [hg]; exact (below_size (by repeat (first | (with_reducible first | exact HB.out | apply below_alloc | apply pw_below_drewN | apply below_drew1 | refine below_set ?_ GE149.out) | exact HB.out))) : w.heap.size ≤ gb150)); have n4_ := Aside0.mk ((by rw [hg]; exact (below_size (by repeat (first | (with_reducible first | exact HB.out | apply below_alloc | apply pw_below_drewN | apply below_drew1 | refine below_set ?_ GE149.out) | exact HB.out))) : w.heap.size ≤ gb150)); have n5_ := Aside0.mk ((by rw [hg]; exact Nat.ne_of_lt (blk_lt (g := gb149) (o := .cells #[.bool a0_0, .int .i64 a0_1, .int .i64 a0_2, .int .i64 a0_3, .string a0_4, .bool a0_5, .int .u64 a0_6, .int .u64 a0_7, .bool a0_8, .int .u64 a0_9, .int .u64 a0_10] 58 (0, 0)) (by (with_reducible repeat (first | refine blk_drewN ?_ _ | refine blk_drew ?_ | refine blk_alloc ?_ _)); exact BK149.out)) : gb149 ≠ gb150)); have n6_ := Aside0.mk ((by rw [hg]; exact Nat.ne_of_gt (blk_lt (g := gb149) (o := .cells #[.bool a0_0, .int .i64 a0_1, .int .i64 a0_2, .int .i64 a0_3, .string a0_4, .bool a0_5, .int .u64 a0_6, .int .u64 a0_7, .bool a0_8, .int .u64 a0_9, .int .u64 a0_10] 58 (0, 0)) (by (with_reducible repeat (first | refine blk_drewN ?_ _ | refine blk_drew ?_ | refine blk_alloc ?_ _)); exact BK149.out)) : gb150 ≠ gb149)); clear BK149; clear HB; have BK149 := n0_; have HB := n1_; have BK150 := n2_; have GW150 := n3_; have GE150 := n4_; have NB149_150 := n5_; have NB150_149 := n6_; clear n0_ n1_ n2_ n3_ n4_ n5_ n6_; clear hb hbox hg; have hnb16 := NB150_149.out; have hnc16 := NB149_150.out; have hcz17_0 : w15.cell? ⟨gb150, 0, none⟩ = some (.bool false) := (blk_cell BK150.out 0).trans rfl; have hcz17_1 : w15.cell? ⟨gb150, 1, none⟩ = some (.int .i64 0) := (blk_cell BK150.out 1).trans rfl; have hcz17_2 : w15.cell? ⟨gb150, 2, none⟩ = some (.int .i64 0) := (blk_cell BK150.out 2).trans rfl; have hcz17_3 : w15.cell? ⟨gb150, 3, none⟩ = some (.int .i64 0) := (blk_cell BK150.out 3).trans rfl; have hcz17_4 : w15.cell? ⟨gb150, 4, none⟩ = some (.string (⟨#[]⟩ : ByteArray)) := (blk_cell BK150.out 4).trans rfl; have hfz17_0 := blk_frozen BK150.out 0; have hfz17_1 := blk_frozen BK150.out 1; have hfz17_2 := blk_frozen BK150.out 2; have hfz17_3 := blk_frozen BK150.out 3; have hfz17_4 := blk_frozen BK150.out 4))
       go_ret
       exact ⟨by first | rfl | (simp [errW_none, errW_some] <;> rfl) | (simp [*, errW_none, errW_some] <;> rfl), by repeat (first | (with_reducible first | exact HB.out | apply below_alloc | apply pw_below_drewN | apply below_drew1 | refine below_set ?_ GE149.out | refine below_set ?_ GE150.out) | exact HB.out)⟩
     ·
      rw [if_neg c6] at H
      have c6b0 : decide (0 ≤ a0_3) = false := decide_eq_false c6
      clear c6
      obtain rfl := Option.some.inj H
      go_enter Try.func48, Try.ntmps48
      go_wp2_with (first | ((with_reducible refine gate_dst (N := 1) rfl ?_); (try (refine gate_guard (by rfl) ?_; dsimp only)); refine box_event ?hg (N := 1) ?hd (cs := #[.bool a0_0, .int .i64 a0_1, .int .i64 a0_2, .int .i64 a0_3, .string a0_4, .bool a0_5, .int .u64 a0_6, .int .u64 a0_7, .bool a0_8, .int .u64 a0_9, .int .u64 a0_10]) (t := 58) ?hr ?_; (case hd => rfl); (case hg => rfl); (case hr => first | (go_simp; done) | (go_simp; rfl)); intro gb149 hg w18 hbox hb; have n0_ := Aside0.mk (below_step (by repeat (first | (with_reducible first | exact HB.out | apply below_alloc | apply pw_below_drewN | apply below_drew1) | exact HB.out)) hb); have n1_ := Aside0.mk (hbox); have n2_ := Aside0.mk ((by rw [hg]; exact (below_size (by repeat (first | (with_reducible first | exact HB.out | apply below_alloc | apply pw_below_drewN | apply below_drew1) | exact HB.out))) : w.heap.size ≤ gb149)); have n3_ := Aside0.mk ((by rw [hg]; exact (below_size (by repeat (first | (with_reducible first | exact HB.out | apply below_alloc | apply pw_below_drewN | apply below_drew1) | exact HB.out))) : w.heap.size ≤ gb149)); clear HB; have HB := n0_; have BK149 := n1_; have GW149 := n2_; have GE149 := n3_; clear n0_ n1_ n2_ n3_; clear hb hbox hg; have hcz19_0 : w18.cell? ⟨gb149, 0, none⟩ = some (.bool a0_0) := (blk_cell BK149.out 0).trans rfl; have hcz19_1 : w18.cell? ⟨gb149, 1, none⟩ = some (.int .i64 a0_1) := (blk_cell BK149.out 1).trans rfl; have hcz19_2 : w18.cell? ⟨gb149, 2, none⟩ = some (.int .i64 a0_2) := (blk_cell BK149.out 2).trans rfl; have hcz19_3 : w18.cell? ⟨gb149, 3, none⟩ = some (.int .i64 a0_3) := (blk_cell BK149.out 3).trans rfl; have hcz19_4 : w18.cell? ⟨gb149, 4, none⟩ = some (.string a0_4) := (blk_cell BK149.out 4).trans rfl; have hcz19_5 : w18.cell? ⟨gb149, 5, none⟩ = some (.bool a0_5) := (blk_cell BK149.out 5).trans rfl; have hcz19_6 : w18.cell? ⟨gb149, 6, none⟩ = some (.int .u64 a0_6) := (blk_cell BK149.out 6).trans rfl; have hcz19_7 : w18.cell? ⟨gb149, 7, none⟩ = some (.int .u64 a0_7) := (blk_cell BK149.out 7).trans rfl; have hcz19_8 : w18.cell? ⟨gb149, 8, none⟩ = some (.bool a0_8) := (blk_cell BK149.out 8).trans rfl; have hcz19_9 : w18.cell? ⟨gb149, 9, none⟩ = some (.int .u64 a0_9) := (blk_cell BK149.out 9).trans rfl; have hcz19_10 : w18.cell? ⟨gb149, 10, none⟩ = some (.int .u64 a0_10) := (blk_cell BK149.out 10).trans rfl; have hfz19_0 := blk_frozen BK149.out 0; have hfz19_1 := blk_frozen BK149.out 1; have hfz19_2 := blk_frozen BK149.out 2; have hfz19_3 := blk_frozen BK149.out 3; have hfz19_4 := blk_frozen BK149.out 4; have hfz19_5 := blk_frozen BK149.out 5; have hfz19_6 := blk_frozen BK149.out 6; have hfz19_7 := blk_frozen BK149.out 7; have hfz19_8 := blk_frozen BK149.out 8; have hfz19_9 := blk_frozen BK149.out 9; have hfz19_10 := blk_frozen BK149.out 10) | ((with_reducible refine gate_dst (N := 3) rfl ?_); (try (refine gate_guard (by rfl) ?_; dsimp only)); refine box_event ?hg (N := 3) ?hd (cs := #[.bool false, .int .i64 0, .int .i64 0, .int .i64 0, .string (⟨#[]⟩ : ByteArray)]) (t := 23) ?hr ?_; (case hd => rfl); (case hg => rfl); (case hr => first | (go_simp; done) | (go_simp; rfl)); intro gb150 hg w20 hbox hb; have n0_ := Aside0.mk (blk_below (g := gb149) (o := .cells #[.bool a0_0, .int .i64 a0_1, .int .i64 a0_2, .int .i64 a0_3, .string a0_4, .bool a0_5, .int .u64 a0_6, .int .u64 a0_7, .bool a0_8, .int .u64 a0_9, .int .u64 a0_10] 58 (0, 0)) (by (with_reducible repeat (first | refine blk_drewN ?_ _ | refine blk_drew ?_ | refine blk_alloc ?_ _)); exact BK149.out) hb); have n1_ := Aside0.mk (below_step (by repeat (first | (with_reducible first | exact HB.out | apply below_alloc | apply pw_below_drewN | apply below_drew1 | refine below_set ?_ GE149.out) | exact HB.out)) hb); have n2_ := Aside0.mk (hbox); have n3_ := Aside0.mk ((by rw [hg]; exact (below_size (by repeat (first | (with_reducible first | exact HB.out | apply below_alloc | apply pw_below_drewN | apply below_drew1 | refine below_set ?_ GE149.out) | exact HB.out))) : w.heap.size ≤ gb150)); have n4_ := Aside0.mk ((by rw [hg]; exact (below_size (by repeat (first | (with_reducible first | exact HB.out | apply below_alloc | apply pw_below_drewN | apply below_drew1 | refine below_set ?_ GE149.out) | exact HB.out))) : w.heap.size ≤ gb150)); have n5_ := Aside0.mk ((by rw [hg]; exact Nat.ne_of_lt (blk_lt (g := gb149) (o := .cells #[.bool a0_0, .int .i64 a0_1, .int .i64 a0_2, .int .i64 a0_3, .string a0_4, .bool a0_5, .int .u64 a0_6, .int .u64 a0_7, .bool a0_8, .int .u64 a0_9, .int .u64 a0_10] 58 (0, 0)) (by (with_reducible repeat (first | refine blk_drewN ?_ _ | refine blk_drew ?_ | refine blk_alloc ?_ _)); exact BK149.out)) : gb149 ≠ gb150)); have n6_ := Aside0.mk ((by rw [hg]; exact Nat.ne_of_gt (blk_lt (g := gb149) (o := .cells #[.bool a0_0, .int .i64 a0_1, .int .i64 a0_2, .int .i64 a0_3, .string a0_4, .bool a0_5, .int .u64 a0_6, .int .u64 a0_7, .bool a0_8, .int .u64 a0_9, .int .u64 a0_10] 58 (0, 0)) (by (with_reducible repeat (first | refine blk_drewN ?_ _ | refine blk_drew ?_ | refine blk_alloc ?_ _)); exact BK149.out)) : gb150 ≠ gb149)); clear BK149; clear HB; have BK149 := n0_; have HB := n1_; have BK150 := n2_; have GW150 := n3_; have GE150 := n4_; have NB149_150 := n5_; have NB150_149 := n6_; clear n0_ n1_ n2_ n3_ n4_ n5_ n6_; clear hb hbox hg; have hnb21 := NB150_149.out; have hnc21 := NB149_150.out; have hcz22_0 : w20.cell? ⟨gb150, 0, none⟩ = some (.bool false) := (blk_cell BK150.out 0).trans rfl; have hcz22_1 : w20.cell? ⟨gb150, 1, none⟩ = some (.int .i64 0) := (blk_cell BK150.out 1).trans rfl; have hcz22_2 : w20.cell? ⟨gb150, 2, none⟩ = some (.int .i64 0) := (blk_cell BK150.out 2).trans rfl; have hcz22_3 : w20.cell? ⟨gb150, 3, none⟩ = some (.int .i64 0) := (blk_cell BK150.out 3).trans rfl; have hcz22_4 : w20.cell? ⟨gb150, 4, none⟩ = some (.string (⟨#[]⟩ : ByteArray)) := (blk_cell BK150.out 4).trans rfl; have hfz22_0 := blk_frozen BK150.out 0; have hfz22_1 := blk_frozen BK150.out 1; have hfz22_2 := blk_frozen BK150.out 2; have hfz22_3 := blk_frozen BK150.out 3; have hfz22_4 := blk_frozen BK150.out 4))
      go_ret
      exact ⟨by first | rfl | (simp [errW_none, errW_some] <;> rfl) | (simp [*, errW_none, errW_some] <;> rfl), by repeat (first | (with_reducible first | exact HB.out | apply below_alloc | apply pw_below_drewN | apply below_drew1 | refine below_set ?_ GE149.out | refine below_set ?_ GE150.out) | exact HB.out)⟩
    ·
     rw [if_neg c5] at H
     have c5b0 : decide (a0_2 < 256) = false := decide_eq_false c5
     clear c5
     obtain rfl := Option.some.inj H
     go_enter Try.func48, Try.ntmps48
     go_wp2_with (first | ((with_reducible refine gate_dst (N := 1) rfl ?_); (try (refine gate_guard (by rfl) ?_; dsimp only)); refine box_event ?hg (N := 1) ?hd (cs := #[.bool a0_0, .int .i64 a0_1, .int .i64 a0_2, .int .i64 a0_3, .string a0_4, .bool a0_5, .int .u64 a0_6, .int .u64 a0_7, .bool a0_8, .int .u64 a0_9, .int .u64 a0_10]) (t := 58) ?hr ?_; (case hd => rfl); (case hg => rfl); (case hr => first | (go_simp; done) | (go_simp; rfl)); intro gb149 hg w23 hbox hb; have n0_ := Aside0.mk (below_step (by repeat (first | (with_reducible first | exact HB.out | apply below_alloc | apply pw_below_drewN | apply below_drew1) | exact HB.out)) hb); have n1_ := Aside0.mk (hbox); have n2_ := Aside0.mk ((by rw [hg]; exact (below_size (by repeat (first | (with_reducible first | exact HB.out | apply below_alloc | apply pw_below_drewN | apply below_drew1) | exact HB.out))) : w.heap.size ≤ gb149)); have n3_ := Aside0.mk ((by rw [hg]; exact (below_size (by repeat (first | (with_reducible first | exact HB.out | apply below_alloc | apply pw_below_drewN | apply below_drew1) | exact HB.out))) : w.heap.size ≤ gb149)); clear HB; have HB := n0_; have BK149 := n1_; have GW149 := n2_; have GE149 := n3_; clear n0_ n1_ n2_ n3_; clear hb hbox hg; have hcz24_0 : w23.cell? ⟨gb149, 0, none⟩ = some (.bool a0_0) := (blk_cell BK149.out 0).trans rfl; have hcz24_1 : w23.cell? ⟨gb149, 1, none⟩ = some (.int .i64 a0_1) := (blk_cell BK149.out 1).trans rfl; have hcz24_2 : w23.cell? ⟨gb149, 2, none⟩ = some (.int .i64 a0_2) := (blk_cell BK149.out 2).trans rfl; have hcz24_3 : w23.cell? ⟨gb149, 3, none⟩ = some (.int .i64 a0_3) := (blk_cell BK149.out 3).trans rfl; have hcz24_4 : w23.cell? ⟨gb149, 4, none⟩ = some (.string a0_4) := (blk_cell BK149.out 4).trans rfl; have hcz24_5 : w23.cell? ⟨gb149, 5, none⟩ = some (.bool a0_5) := (blk_cell BK149.out 5).trans rfl; have hcz24_6 : w23.cell? ⟨gb149, 6, none⟩ = some (.int .u64 a0_6) := (blk_cell BK149.out 6).trans rfl; have hcz24_7 : w23.cell? ⟨gb149, 7, none⟩ = some (.int .u64 a0_7) := (blk_cell BK149.out 7).trans rfl; have hcz24_8 : w23.cell? ⟨gb149, 8, none⟩ = some (.bool a0_8) := (blk_cell BK149.out 8).trans rfl; have hcz24_9 : w23.cell? ⟨gb149, 9, none⟩ = some (.int .u64 a0_9) := (blk_cell BK149.out 9).trans rfl; have hcz24_10 : w23.cell? ⟨gb149, 10, none⟩ = some (.int .u64 a0_10) := (blk_cell BK149.out 10).trans rfl; have hfz24_0 := blk_frozen BK149.out 0; have hfz24_1 := blk_frozen BK149.out 1; have hfz24_2 := blk_frozen BK149.out 2; have hfz24_3 := blk_frozen BK149.out 3; have hfz24_4 := blk_frozen BK149.out 4; have hfz24_5 := blk_frozen BK149.out 5; have hfz24_6 := blk_frozen BK149.out 6; have hfz24_7 := blk_frozen BK149.out 7; have hfz24_8 := blk_frozen BK149.out 8; have hfz24_9 := blk_frozen BK149.out 9; have hfz24_10 := blk_frozen BK149.out 10) | ((with_reducible refine gate_dst (N := 3) rfl ?_); (try (refine gate_guard (by rfl) ?_; dsimp only)); refine box_event ?hg (N := 3) ?hd (cs := #[.bool false, .int .i64 0, .int .i64 0, .int .i64 0, .string (⟨#[]⟩ : ByteArray)]) (t := 23) ?hr ?_; (case hd => rfl); (case hg => rfl); (case hr => first | (go_simp; done) | (go_simp; rfl)); intro gb150 hg w25 hbox hb; have n0_ := Aside0.mk (blk_below (g := gb149) (o := .cells #[.bool a0_0, .int .i64 a0_1, .int .i64 a0_2, .int .i64 a0_3, .string a0_4, .bool a0_5, .int .u64 a0_6, .int .u64 a0_7, .bool a0_8, .int .u64 a0_9, .int .u64 a0_10] 58 (0, 0)) (by (with_reducible repeat (first | refine blk_drewN ?_ _ | refine blk_drew ?_ | refine blk_alloc ?_ _)); exact BK149.out) hb); have n1_ := Aside0.mk (below_step (by repeat (first | (with_reducible first | exact HB.out | apply below_alloc | apply pw_below_drewN | apply below_drew1 | refine below_set ?_ GE149.out) | exact HB.out)) hb); have n2_ := Aside0.mk (hbox); have n3_ := Aside0.mk ((by rw [hg]; exact (below_size (by repeat (first | (with_reducible first | exact HB.out | apply below_alloc | apply pw_below_drewN | apply below_drew1 | refine below_set ?_ GE149.out) | exact HB.out))) : w.heap.size ≤ gb150)); have n4_ := Aside0.mk ((by rw [hg]; exact (below_size (by repeat (first | (with_reducible first | exact HB.out | apply below_alloc | apply pw_below_drewN | apply below_drew1 | refine below_set ?_ GE149.out) | exact HB.out))) : w.heap.size ≤ gb150)); have n5_ := Aside0.mk ((by rw [hg]; exact Nat.ne_of_lt (blk_lt (g := gb149) (o := .cells #[.bool a0_0, .int .i64 a0_1, .int .i64 a0_2, .int .i64 a0_3, .string a0_4, .bool a0_5, .int .u64 a0_6, .int .u64 a0_7, .bool a0_8, .int .u64 a0_9, .int .u64 a0_10] 58 (0, 0)) (by (with_reducible repeat (first | refine blk_drewN ?_ _ | refine blk_drew ?_ | refine blk_alloc ?_ _)); exact BK149.out)) : gb149 ≠ gb150)); have n6_ := Aside0.mk ((by rw [hg]; exact Nat.ne_of_gt (blk_lt (g := gb149) (o := .cells #[.bool a0_0, .int .i64 a0_1, .int .i64 a0_2, .int .i64 a0_3, .string a0_4, .bool a0_5, .int .u64 a0_6, .int .u64 a0_7, .bool a0_8, .int .u64 a0_9, .int .u64 a0_10] 58 (0, 0)) (by (with_reducible repeat (first | refine blk_drewN ?_ _ | refine blk_drew ?_ | refine blk_alloc ?_ _)); exact BK149.out)) : gb150 ≠ gb149)); clear BK149; clear HB; have BK149 := n0_; have HB := n1_; have BK150 := n2_; have GW150 := n3_; have GE150 := n4_; have NB149_150 := n5_; have NB150_149 := n6_; clear n0_ n1_ n2_ n3_ n4_ n5_ n6_; clear hb hbox hg; have hnb26 := NB150_149.out; have hnc26 := NB149_150.out; have hcz27_0 : w25.cell? ⟨gb150, 0, none⟩ = some (.bool false) := (blk_cell BK150.out 0).trans rfl; have hcz27_1 : w25.cell? ⟨gb150, 1, none⟩ = some (.int .i64 0) := (blk_cell BK150.out 1).trans rfl; have hcz27_2 : w25.cell? ⟨gb150, 2, none⟩ = some (.int .i64 0) := (blk_cell BK150.out 2).trans rfl; have hcz27_3 : w25.cell? ⟨gb150, 3, none⟩ = some (.int .i64 0) := (blk_cell BK150.out 3).trans rfl; have hcz27_4 : w25.cell? ⟨gb150, 4, none⟩ = some (.string (⟨#[]⟩ : ByteArray)) := (blk_cell BK150.out 4).trans rfl; have hfz27_0 := blk_frozen BK150.out 0; have hfz27_1 := blk_frozen BK150.out 1; have hfz27_2 := blk_frozen BK150.out 2; have hfz27_3 := blk_frozen BK150.out 3; have hfz27_4 := blk_frozen BK150.out 4))
     go_ret
     exact ⟨by first | rfl | (simp [errW_none, errW_some] <;> rfl) | (simp [*, errW_none, errW_some] <;> rfl), by repeat (first | (with_reducible first | exact HB.out | apply below_alloc | apply pw_below_drewN | apply below_drew1 | refine below_set ?_ GE149.out | refine below_set ?_ GE150.out) | exact HB.out)⟩
   ·
    rw [if_neg c4] at H
    have c4b0 : decide (0 ≤ a0_2) = false := decide_eq_false c4
    clear c4
    obtain rfl := Option.some.inj H
    go_enter Try.func48, Try.ntmps48
    go_wp2_with (first | ((with_reducible refine gate_dst (N := 1) rfl ?_); (try (refine gate_guard (by rfl) ?_; dsimp only)); refine box_event ?hg (N := 1) ?hd (cs := #[.bool a0_0, .int .i64 a0_1, .int .i64 a0_2, .int .i64 a0_3, .string a0_4, .bool a0_5, .int .u64 a0_6, .int .u64 a0_7, .bool a0_8, .int .u64 a0_9, .int .u64 a0_10]) (t := 58) ?hr ?_; (case hd => rfl); (case hg => rfl); (case hr => first | (go_simp; done) | (go_simp; rfl)); intro gb149 hg w28 hbox hb; have n0_ := Aside0.mk (below_step (by repeat (first | (with_reducible first | exact HB.out | apply below_alloc | apply pw_below_drewN | apply below_drew1) | exact HB.out)) hb); have n1_ := Aside0.mk (hbox); have n2_ := Aside0.mk ((by rw [hg]; exact (below_size (by repeat (first | (with_reducible first | exact HB.out | apply below_alloc | apply pw_below_drewN | apply below_drew1) | exact HB.out))) : w.heap.size ≤ gb149)); have n3_ := Aside0.mk ((by rw [hg]; exact (below_size (by repeat (first | (with_reducible first | exact HB.out | apply below_alloc | apply pw_below_drewN | apply below_drew1) | exact HB.out))) : w.heap.size ≤ gb149)); clear HB; have HB := n0_; have BK149 := n1_; have GW149 := n2_; have GE149 := n3_; clear n0_ n1_ n2_ n3_; clear hb hbox hg; have hcz29_0 : w28.cell? ⟨gb149, 0, none⟩ = some (.bool a0_0) := (blk_cell BK149.out 0).trans rfl; have hcz29_1 : w28.cell? ⟨gb149, 1, none⟩ = some (.int .i64 a0_1) := (blk_cell BK149.out 1).trans rfl; have hcz29_2 : w28.cell? ⟨gb149, 2, none⟩ = some (.int .i64 a0_2) := (blk_cell BK149.out 2).trans rfl; have hcz29_3 : w28.cell? ⟨gb149, 3, none⟩ = some (.int .i64 a0_3) := (blk_cell BK149.out 3).trans rfl; have hcz29_4 : w28.cell? ⟨gb149, 4, none⟩ = some (.string a0_4) := (blk_cell BK149.out 4).trans rfl; have hcz29_5 : w28.cell? ⟨gb149, 5, none⟩ = some (.bool a0_5) := (blk_cell BK149.out 5).trans rfl; have hcz29_6 : w28.cell? ⟨gb149, 6, none⟩ = some (.int .u64 a0_6) := (blk_cell BK149.out 6).trans rfl; have hcz29_7 : w28.cell? ⟨gb149, 7, none⟩ = some (.int .u64 a0_7) := (blk_cell BK149.out 7).trans rfl; have hcz29_8 : w28.cell? ⟨gb149, 8, none⟩ = some (.bool a0_8) := (blk_cell BK149.out 8).trans rfl; have hcz29_9 : w28.cell? ⟨gb149, 9, none⟩ = some (.int .u64 a0_9) := (blk_cell BK149.out 9).trans rfl; have hcz29_10 : w28.cell? ⟨gb149, 10, none⟩ = some (.int .u64 a0_10) := (blk_cell BK149.out 10).trans rfl; have hfz29_0 := blk_frozen BK149.out 0; have hfz29_1 := blk_frozen BK149.out 1; have hfz29_2 := blk_frozen BK149.out 2; have hfz29_3 := blk_frozen BK149.out 3; have hfz29_4 := blk_frozen BK149.out 4; have hfz29_5 := blk_frozen BK149.out 5; have hfz29_6 := blk_frozen BK149.out 6; have hfz29_7 := blk_frozen BK149.out 7; have hfz29_8 := blk_frozen BK149.out 8; have hfz29_9 := blk_frozen BK149.out 9; have hfz29_10 := blk_frozen BK149.out 10) | ((with_reducible refine gate_dst (N := 3) rfl ?_); (try (refine gate_guard (by rfl) ?_; dsimp only)); refine box_event ?hg (N := 3) ?hd (cs := #[.bool false, .int .i64 0, .int .i64 0, .int .i64 0, .string (⟨#[]⟩ : ByteArray)]) (t := 23) ?hr ?_; (case hd => rfl); (case hg => rfl); (case hr => first | (go_simp; done) | (go_simp; rfl)); intro gb150 hg w30 hbox hb; have n0_ := Aside0.mk (blk_below (g := gb149) (o := .cells #[.bool a0_0, .int .i64 a0_1, .int .i64 a0_2, .int .i64 a0_3, .string a0_4, .bool a0_5, .int .u64 a0_6, .int .u64 a0_7, .bool a0_8, .int .u64 a0_9, .int .u64 a0_10] 58 (0, 0)) (by (with_reducible repeat (first | refine blk_drewN ?_ _ | refine blk_drew ?_ | refine blk_alloc ?_ _)); exact BK149.out) hb); have n1_ := Aside0.mk (below_step (by repeat (first | (with_reducible first | exact HB.out | apply below_alloc | apply pw_below_drewN | apply below_drew1 | refine below_set ?_ GE149.out) | exact HB.out)) hb); have n2_ := Aside0.mk (hbox); have n3_ := Aside0.mk ((by rw [hg]; exact (below_size (by repeat (first | (with_reducible first | exact HB.out | apply below_alloc | apply pw_below_drewN | apply below_drew1 | refine below_set ?_ GE149.out) | exact HB.out))) : w.heap.size ≤ gb150)); have n4_ := Aside0.mk ((by rw [hg]; exact (below_size (by repeat (first | (with_reducible first | exact HB.out | apply below_alloc | apply pw_below_drewN | apply below_drew1 | refine below_set ?_ GE149.out) | exact HB.out))) : w.heap.size ≤ gb150)); have n5_ := Aside0.mk ((by rw [hg]; exact Nat.ne_of_lt (blk_lt (g := gb149) (o := .cells #[.bool a0_0, .int .i64 a0_1, .int .i64 a0_2, .int .i64 a0_3, .string a0_4, .bool a0_5, .int .u64 a0_6, .int .u64 a0_7, .bool a0_8, .int .u64 a0_9, .int .u64 a0_10] 58 (0, 0)) (by (with_reducible repeat (first | refine blk_drewN ?_ _ | refine blk_drew ?_ | refine blk_alloc ?_ _)); exact BK149.out)) : gb149 ≠ gb150)); have n6_ := Aside0.mk ((by rw [hg]; exact Nat.ne_of_gt (blk_lt (g := gb149) (o := .cells #[.bool a0_0, .int .i64 a0_1, .int .i64 a0_2, .int .i64 a0_3, .string a0_4, .bool a0_5, .int .u64 a0_6, .int .u64 a0_7, .bool a0_8, .int .u64 a0_9, .int .u64 a0_10] 58 (0, 0)) (by (with_reducible repeat (first | refine blk_drewN ?_ _ | refine blk_drew ?_ | refine blk_alloc ?_ _)); exact BK149.out)) : gb150 ≠ gb149)); clear BK149; clear HB; have BK149 := n0_; have HB := n1_; have BK150 := n2_; have GW150 := n3_; have GE150 := n4_; have NB149_150 := n5_; have NB150_149 := n6_; clear n0_ n1_ n2_ n3_ n4_ n5_ n6_; clear hb hbox hg; have hnb31 := NB150_149.out; have hnc31 := NB149_150.out; have hcz32_0 : w30.cell? ⟨gb150, 0, none⟩ = some (.bool false) := (blk_cell BK150.out 0).trans rfl; have hcz32_1 : w30.cell? ⟨gb150, 1, none⟩ = some (.int .i64 0) := (blk_cell BK150.out 1).trans rfl; have hcz32_2 : w30.cell? ⟨gb150, 2, none⟩ = some (.int .i64 0) := (blk_cell BK150.out 2).trans rfl; have hcz32_3 : w30.cell? ⟨gb150, 3, none⟩ = some (.int .i64 0) := (blk_cell BK150.out 3).trans rfl; have hcz32_4 : w30.cell? ⟨gb150, 4, none⟩ = some (.string (⟨#[]⟩ : ByteArray)) := (blk_cell BK150.out 4).trans rfl; have hfz32_0 := blk_frozen BK150.out 0; have hfz32_1 := blk_frozen BK150.out 1; have hfz32_2 := blk_frozen BK150.out 2; have hfz32_3 := blk_frozen BK150.out 3; have hfz32_4 := blk_frozen BK150.out 4))
    go_ret
    exact ⟨by first | rfl | (simp [errW_none, errW_some] <;> rfl) | (simp [*, errW_none, errW_some] <;> rfl), by repeat (first | (with_reducible first | exact HB.out | apply below_alloc | apply pw_below_drewN | apply below_drew1 | refine below_set ?_ GE149.out | refine below_set ?_ GE150.out) | exact HB.out)⟩
  ·
   rw [if_neg c3] at H
   have c3b0 : decide (a0_1 < 256) = false := decide_eq_false c3
   clear c3
   obtain rfl := Option.some.inj H
   go_enter Try.func48, Try.ntmps48
   go_wp2_with (first | ((with_reducible refine gate_dst (N := 1) rfl ?_); (try (refine gate_guard (by rfl) ?_; dsimp only)); refine box_event ?hg (N := 1) ?hd (cs := #[.bool a0_0, .int .i64 a0_1, .int .i64 a0_2, .int .i64 a0_3, .string a0_4, .bool a0_5, .int .u64 a0_6, .int .u64 a0_7, .bool a0_8, .int .u64 a0_9, .int .u64 a0_10]) (t := 58) ?hr ?_; (case hd => rfl); (case hg => rfl); (case hr => first | (go_simp; done) | (go_simp; rfl)); intro gb149 hg w33 hbox hb; have n0_ := Aside0.mk (below_step (by repeat (first | (with_reducible first | exact HB.out | apply below_alloc | apply pw_below_drewN | apply below_drew1) | exact HB.out)) hb); have n1_ := Aside0.mk (hbox); have n2_ := Aside0.mk ((by rw [hg]; exact (below_size (by repeat (first | (with_reducible first | exact HB.out | apply below_alloc | apply pw_below_drewN | apply below_drew1) | exact HB.out))) : w.heap.size ≤ gb149)); have n3_ := Aside0.mk ((by rw [hg]; exact (below_size (by repeat (first | (with_reducible first | exact HB.out | apply below_alloc | apply pw_below_drewN | apply below_drew1) | exact HB.out))) : w.heap.size ≤ gb149)); clear HB; have HB := n0_; have BK149 := n1_; have GW149 := n2_; have GE149 := n3_; clear n0_ n1_ n2_ n3_; clear hb hbox hg; have hcz34_0 : w33.cell? ⟨gb149, 0, none⟩ = some (.bool a0_0) := (blk_cell BK149.out 0).trans rfl; have hcz34_1 : w33.cell? ⟨gb149, 1, none⟩ = some (.int .i64 a0_1) := (blk_cell BK149.out 1).trans rfl; have hcz34_2 : w33.cell? ⟨gb149, 2, none⟩ = some (.int .i64 a0_2) := (blk_cell BK149.out 2).trans rfl; have hcz34_3 : w33.cell? ⟨gb149, 3, none⟩ = some (.int .i64 a0_3) := (blk_cell BK149.out 3).trans rfl; have hcz34_4 : w33.cell? ⟨gb149, 4, none⟩ = some (.string a0_4) := (blk_cell BK149.out 4).trans rfl; have hcz34_5 : w33.cell? ⟨gb149, 5, none⟩ = some (.bool a0_5) := (blk_cell BK149.out 5).trans rfl; have hcz34_6 : w33.cell? ⟨gb149, 6, none⟩ = some (.int .u64 a0_6) := (blk_cell BK149.out 6).trans rfl; have hcz34_7 : w33.cell? ⟨gb149, 7, none⟩ = some (.int .u64 a0_7) := (blk_cell BK149.out 7).trans rfl; have hcz34_8 : w33.cell? ⟨gb149, 8, none⟩ = some (.bool a0_8) := (blk_cell BK149.out 8).trans rfl; have hcz34_9 : w33.cell? ⟨gb149, 9, none⟩ = some (.int .u64 a0_9) := (blk_cell BK149.out 9).trans rfl; have hcz34_10 : w33.cell? ⟨gb149, 10, none⟩ = some (.int .u64 a0_10) := (blk_cell BK149.out 10).trans rfl; have hfz34_0 := blk_frozen BK149.out 0; have hfz34_1 := blk_frozen BK149.out 1; have hfz34_2 := blk_frozen BK149.out 2; have hfz34_3 := blk_frozen BK149.out 3; have hfz34_4 := blk_frozen BK149.out 4; have hfz34_5 := blk_frozen BK149.out 5; have hfz34_6 := blk_frozen BK149.out 6; have hfz34_7 := blk_frozen BK149.out 7; have hfz34_8 := blk_frozen BK149.out 8; have hfz34_9 := blk_frozen BK149.out 9; have hfz34_10 := blk_frozen BK149.out 10) | ((with_reducible refine gate_dst (N := 3) rfl ?_); (try (refine gate_guard (by rfl) ?_; dsimp only)); refine box_event ?hg (N := 3) ?hd (cs := #[.bool false, .int .i64 0, .int .i64 0, .int .i64 0, .string (⟨#[]⟩ : ByteArray)]) (t := 23) ?hr ?_; (case hd => rfl); (case hg => rfl); (case hr => first | (go_simp; done) | (go_simp; rfl)); intro gb150 hg w35 hbox hb; have n0_ := Aside0.mk (blk_below (g := gb149) (o := .cells #[.bool a0_0, .int .i64 a0_1, .int .i64 a0_2, .int .i64 a0_3, .string a0_4, .bool a0_5, .int .u64 a0_6, .int .u64 a0_7, .bool a0_8, .int .u64 a0_9, .int .u64 a0_10] 58 (0, 0)) (by (with_reducible repeat (first | refine blk_drewN ?_ _ | refine blk_drew ?_ | refine blk_alloc ?_ _)); exact BK149.out) hb); have n1_ := Aside0.mk (below_step (by repeat (first | (with_reducible first | exact HB.out | apply below_alloc | apply pw_below_drewN | apply below_drew1 | refine below_set ?_ GE149.out) | exact HB.out)) hb); have n2_ := Aside0.mk (hbox); have n3_ := Aside0.mk ((by rw [hg]; exact (below_size (by repeat (first | (with_reducible first | exact HB.out | apply below_alloc | apply pw_below_drewN | apply below_drew1 | refine below_set ?_ GE149.out) | exact HB.out))) : w.heap.size ≤ gb150)); have n4_ := Aside0.mk ((by rw [hg]; exact (below_size (by repeat (first | (with_reducible first | exact HB.out | apply below_alloc | apply pw_below_drewN | apply below_drew1 | refine below_set ?_ GE149.out) | exact HB.out))) : w.heap.size ≤ gb150)); have n5_ := Aside0.mk ((by rw [hg]; exact Nat.ne_of_lt (blk_lt (g := gb149) (o := .cells #[.bool a0_0, .int .i64 a0_1, .int .i64 a0_2, .int .i64 a0_3, .string a0_4, .bool a0_5, .int .u64 a0_6, .int .u64 a0_7, .bool a0_8, .int .u64 a0_9, .int .u64 a0_10] 58 (0, 0)) (by (with_reducible repeat (first | refine blk_drewN ?_ _ | refine blk_drew ?_ | refine blk_alloc ?_ _)); exact BK149.out)) : gb149 ≠ gb150)); have n6_ := Aside0.mk ((by rw [hg]; exact Nat.ne_of_gt (blk_lt (g := gb149) (o := .cells #[.bool a0_0, .int .i64 a0_1, .int .i64 a0_2, .int .i64 a0_3, .string a0_4, .bool a0_5, .int .u64 a0_6, .int .u64 a0_7, .bool a0_8, .int .u64 a0_9, .int .u64 a0_10] 58 (0, 0)) (by (with_reducible repeat (first | refine blk_drewN ?_ _ | refine blk_drew ?_ | refine blk_alloc ?_ _)); exact BK149.out)) : gb150 ≠ gb149)); clear BK149; clear HB; have BK149 := n0_; have HB := n1_; have BK150 := n2_; have GW150 := n3_; have GE150 := n4_; have NB149_150 := n5_; have NB150_149 := n6_; clear n0_ n1_ n2_ n3_ n4_ n5_ n6_; clear hb hbox hg; have hnb36 := NB150_149.out; have hnc36 := NB149_150.out; have hcz37_0 : w35.cell? ⟨gb150, 0, none⟩ = some (.bool false) := (blk_cell BK150.out 0).trans rfl; have hcz37_1 : w35.cell? ⟨gb150, 1, none⟩ = some (.int .i64 0) := (blk_cell BK150.out 1).trans rfl; have hcz37_2 : w35.cell? ⟨gb150, 2, none⟩ = some (.int .i64 0) := (blk_cell BK150.out 2).trans rfl; have hcz37_3 : w35.cell? ⟨gb150, 3, none⟩ = some (.int .i64 0) := (blk_cell BK150.out 3).trans rfl; have hcz37_4 : w35.cell? ⟨gb150, 4, none⟩ = some (.string (⟨#[]⟩ : ByteArray)) := (blk_cell BK150.out 4).trans rfl; have hfz37_0 := blk_frozen BK150.out 0; have hfz37_1 := blk_frozen BK150.out 1; have hfz37_2 := blk_frozen BK150.out 2; have hfz37_3 := blk_frozen BK150.out 3; have hfz37_4 := blk_frozen BK150.out 4))
   go_ret
   exact ⟨by first | rfl | (simp [errW_none, errW_some] <;> rfl) | (simp [*, errW_none, errW_some] <;> rfl), by repeat (first | (with_reducible first | exact HB.out | apply below_alloc | apply pw_below_drewN | apply below_drew1 | refine below_set ?_ GE149.out | refine below_set ?_ GE150.out) | exact HB.out)⟩
 ·
  rw [if_neg c2] at H
  have c2b0 : decide (0 ≤ a0_1) = false := decide_eq_false c2
  clear c2
  obtain rfl := Option.some.inj H
  go_enter Try.func48, Try.ntmps48
  go_wp2_with (first | ((with_reducible refine gate_dst (N := 1) rfl ?_); (try (refine gate_guard (by rfl) ?_; dsimp only)); refine box_event ?hg (N := 1) ?hd (cs := #[.bool a0_0, .int .i64 a0_1, .int .i64 a0_2, .int .i64 a0_3, .string a0_4, .bool a0_5, .int .u64 a0_6, .int .u64 a0_7, .bool a0_8, .int .u64 a0_9, .int .u64 a0_10]) (t := 58) ?hr ?_; (case hd => rfl); (case hg => rfl); (case hr => first | (go_simp; done) | (go_simp; rfl)); intro gb149 hg w38 hbox hb; have n0_ := Aside0.mk (below_step (by repeat (first | (with_reducible first | exact HB.out | apply below_alloc | apply pw_below_drewN | apply below_drew1) | exact HB.out)) hb); have n1_ := Aside0.mk (hbox); have n2_ := Aside0.mk ((by rw [hg]; exact (below_size (by repeat (first | (with_reducible first | exact HB.out | apply below_alloc | apply pw_below_drewN | apply below_drew1) | exact HB.out))) : w.heap.size ≤ gb149)); have n3_ := Aside0.mk ((by rw [hg]; exact (below_size (by repeat (first | (with_reducible first | exact HB.out | apply below_alloc | apply pw_below_drewN | apply below_drew1) | exact HB.out))) : w.heap.size ≤ gb149)); clear HB; have HB := n0_; have BK149 := n1_; have GW149 := n2_; have GE149 := n3_; clear n0_ n1_ n2_ n3_; clear hb hbox hg; have hcz39_0 : w38.cell? ⟨gb149, 0, none⟩ = some (.bool a0_0) := (blk_cell BK149.out 0).trans rfl; have hcz39_1 : w38.cell? ⟨gb149, 1, none⟩ = some (.int .i64 a0_1) := (blk_cell BK149.out 1).trans rfl; have hcz39_2 : w38.cell? ⟨gb149, 2, none⟩ = some (.int .i64 a0_2) := (blk_cell BK149.out 2).trans rfl; have hcz39_3 : w38.cell? ⟨gb149, 3, none⟩ = some (.int .i64 a0_3) := (blk_cell BK149.out 3).trans rfl; have hcz39_4 : w38.cell? ⟨gb149, 4, none⟩ = some (.string a0_4) := (blk_cell BK149.out 4).trans rfl; have hcz39_5 : w38.cell? ⟨gb149, 5, none⟩ = some (.bool a0_5) := (blk_cell BK149.out 5).trans rfl; have hcz39_6 : w38.cell? ⟨gb149, 6, none⟩ = some (.int .u64 a0_6) := (blk_cell BK149.out 6).trans rfl; have hcz39_7 : w38.cell? ⟨gb149, 7, none⟩ = some (.int .u64 a0_7) := (blk_cell BK149.out 7).trans rfl; have hcz39_8 : w38.cell? ⟨gb149, 8, none⟩ = some (.bool a0_8) := (blk_cell BK149.out 8).trans rfl; have hcz39_9 : w38.cell? ⟨gb149, 9, none⟩ = some (.int .u64 a0_9) := (blk_cell BK149.out 9).trans rfl; have hcz39_10 : w38.cell? ⟨gb149, 10, none⟩ = some (.int .u64 a0_10) := (blk_cell BK149.out 10).trans rfl; have hfz39_0 := blk_frozen BK149.out 0; have hfz39_1 := blk_frozen BK149.out 1; have hfz39_2 := blk_frozen BK149.out 2; have hfz39_3 := blk_frozen BK149.out 3; have hfz39_4 := blk_frozen BK149.out 4; have hfz39_5 := blk_frozen BK149.out 5; have hfz39_6 := blk_frozen BK149.out 6; have hfz39_7 := blk_frozen BK149.out 7; have hfz39_8 := blk_frozen BK149.out 8; have hfz39_9 := blk_frozen BK149.out 9; have hfz39_10 := blk_frozen BK149.out 10) | ((with_reducible refine gate_dst (N := 3) rfl ?_); (try (refine gate_guard (by rfl) ?_; dsimp only)); refine box_event ?hg (N := 3) ?hd (cs := #[.bool false, .int .i64 0, .int .i64 0, .int .i64 0, .string (⟨#[]⟩ : ByteArray)]) (t := 23) ?hr ?_; (case hd => rfl); (case hg => rfl); (case hr => first | (go_simp; done) | (go_simp; rfl)); intro gb150 hg w40 hbox hb; have n0_ := Aside0.mk (blk_below (g := gb149) (o := .cells #[.bool a0_0, .int .i64 a0_1, .int .i64 a0_2, .int .i64 a0_3, .string a0_4, .bool a0_5, .int .u64 a0_6, .int .u64 a0_7, .bool a0_8, .int .u64 a0_9, .int .u64 a0_10] 58 (0, 0)) (by (with_reducible repeat (first | refine blk_drewN ?_ _ | refine blk_drew ?_ | refine blk_alloc ?_ _)); exact BK149.out) hb); have n1_ := Aside0.mk (below_step (by repeat (first | (with_reducible first | exact HB.out | apply below_alloc | apply pw_below_drewN | apply below_drew1 | refine below_set ?_ GE149.out) | exact HB.out)) hb); have n2_ := Aside0.mk (hbox); have n3_ := Aside0.mk ((by rw [hg]; exact (below_size (by repeat (first | (with_reducible first | exact HB.out | apply below_alloc | apply pw_below_drewN | apply below_drew1 | refine below_set ?_ GE149.out) | exact HB.out))) : w.heap.size ≤ gb150)); have n4_ := Aside0.mk ((by rw [hg]; exact (below_size (by repeat (first | (with_reducible first | exact HB.out | apply below_alloc | apply pw_below_drewN | apply below_drew1 | refine below_set ?_ GE149.out) | exact HB.out))) : w.heap.size ≤ gb150)); have n5_ := Aside0.mk ((by rw [hg]; exact Nat.ne_of_lt (blk_lt (g := gb149) (o := .cells #[.bool a0_0, .int .i64 a0_1, .int .i64 a0_2, .int .i64 a0_3, .string a0_4, .bool a0_5, .int .u64 a0_6, .int .u64 a0_7, .bool a0_8, .int .u64 a0_9, .int .u64 a0_10] 58 (0, 0)) (by (with_reducible repeat (first | refine blk_drewN ?_ _ | refine blk_drew ?_ | refine blk_alloc ?_ _)); exact BK149.out)) : gb149 ≠ gb150)); have n6_ := Aside0.mk ((by rw [hg]; exact Nat.ne_of_gt (blk_lt (g := gb149) (o := .cells #[.bool a0_0, .int .i64 a0_1, .int .i64 a0_2, .int .i64 a0_3, .string a0_4, .bool a0_5, .int .u64 a0_6, .int .u64 a0_7, .bool a0_8, .int .u64 a0_9, .int .u64 a0_10] 58 (0, 0)) (by (with_reducible repeat (first | refine blk_drewN ?_ _ | refine blk_drew ?_ | refine blk_alloc ?_ _)); exact BK149.out)) : gb150 ≠ gb149)); clear BK149; clear HB; have BK149 := n0_; have HB := n1_; have BK150 := n2_; have GW150 := n3_; have GE150 := n4_; have NB149_150 := n5_; have NB150_149 := n6_; clear n0_ n1_ n2_ n3_ n4_ n5_ n6_; clear hb hbox hg; have hnb41 := NB150_149.out; have hnc41 := NB149_150.out; have hcz42_0 : w40.cell? ⟨gb150, 0, none⟩ = some (.bool false) := (blk_cell BK150.out 0).trans rfl; have hcz42_1 : w40.cell? ⟨gb150, 1, none⟩ = some (.int .i64 0) := (blk_cell BK150.out 1).trans rfl; have hcz42_2 : w40.cell? ⟨gb150, 2, none⟩ = some (.int .i64 0) := (blk_cell BK150.out 2).trans rfl; have hcz42_3 : w40.cell? ⟨gb150, 3, none⟩ = some (.int .i64 0) := (blk_cell BK150.out 3).trans rfl; have hcz42_4 : w40.cell? ⟨gb150, 4, none⟩ = some (.string (⟨#[]⟩ : ByteArray)) := (blk_cell BK150.out 4).trans rfl; have hfz42_0 := blk_frozen BK150.out 0; have hfz42_1 := blk_frozen BK150.out 1; have hfz42_2 := blk_frozen BK150.out 2; have hfz42_3 := blk_frozen BK150.out 3; have hfz42_4 := blk_frozen BK150.out 4))
  go_ret
  exact ⟨by first | rfl | (simp [errW_none, errW_some] <;> rfl) | (simp [*, errW_none, errW_some] <;> rfl), by repeat (first | (with_reducible first | exact HB.out | apply below_alloc | apply pw_below_drewN | apply below_drew1 | refine below_set ?_ GE149.out | refine below_set ?_ GE150.out) | exact HB.out)⟩

/-! ### icmp_base_bytes: function 47 (by hand) -/
/-- A message's bytes, with a check. -/
def icmp_base_bytes.of (kind code rest : Int) (data : ByteArray) (check : Int) : List Int := (([kind % 256, code % 256] ++ MBe.be check 2) ++ MBe.be (IntKind.u64.wrap rest) 4) ++ bytesOf data
set_option maxHeartbeats 1000000 in
set_option maxRecDepth 100000 in
theorem icmp_base_bytes.calls (s : Bool) (kind code rest : Int) (data : ByteArray) (b1 : Bool) (h1 l1 : Int) (b2 : Bool) (h2 l2 : Int) (check : Int) (hs : data.size ≤ 140737488355200) (hc : 0 ≤ check ∧ check ≤ 65535) (w : World) :
  Calls Try.prog 47 #[.agg #[.bool s, .int .i64 kind, .int .i64 code, .int .i64 rest, .string data, .bool b1, .int .u64 h1, .int .u64 l1, .bool b2, .int .u64 h2, .int .u64 l2], .int .u16 check] w fun e w' => ∃ v, e = .returned v ∧ Kd.R (Kd.int .u8) 5 w' w.heap.size (fun _ => True) v (icmp_base_bytes.of kind code rest data check) ∧ Below w.heap.size w w' := by
 have hu58 := Try.underlying58
 have hu23 := Try.underlying23
 have hu26 := Try.underlying26
 have HS := Aside0.mk hs
 unfold icmp_base_bytes.of
 obtain ⟨rs, hrs⟩ : ∃ rs, IntKind.u64.wrap rest = rs := ⟨_, rfl⟩
 rw [hrs]
 have HB := Aside0.mk (Below.refl w.heap.size w)
 go_enter Try.func47, Try.ntmps47
 go_wp2_with fail
 refine (octet_Put.calls (some ⟨w.heap.size + 1, 0, none⟩) 2 [kind % 256, code % 256] 2 check ([kind % 256, code % 256] ++ MBe.be check 2) _ ?hc (by simp) ?hf).mono ?_
 case hf => unfold octet_Put.f; rw [if_pos (by simp), show octet_Put.wid 2 = 2 by decide]
 case hc => refine MStr.C_block0 (T := 5) (MStr.alloc2_new _ _ _) (by simp)
 rintro e w2 ⟨v2, rfl, ho, hb⟩
 have x3 : w2.cell? ⟨w.heap.size, 3, none⟩ = some (.int .i64 rest) := pw_cell_below hb (pw_cell_below (below_alloc (Below.refl _ _) _) (MStr.alloc_cell _ _ _ _ _ rfl))
 have X4 : Aside0 (w2.cell? ⟨w.heap.size, 4, none⟩ = some (.string data)) := ⟨pw_cell_below hb (pw_cell_below (below_alloc (Below.refl _ _) _) (MStr.alloc_cell _ _ _ _ _ rfl))⟩
 replace HB := Aside0.mk (below_step (by repeat (first | (with_reducible first | exact HB.out | apply below_alloc | apply pw_below_drewN | apply below_drew1) | exact HB.out)) hb)
 obtain ⟨L2, hL2⟩ : ∃ L2, [kind % 256, code % 256] ++ MBe.be check 2 = L2 := ⟨_, rfl⟩
 have HN2 := Aside0.mk (show L2.length = 4 by rw [← hL2]; simp [MBe.be_length])
 rw [hL2] at ho
 have HE := Aside0.mk hL2
 clear hL2
 obtain ⟨A2, c2, rfl⟩ := Kd.R_slice ho
 have HO := Aside0.mk (Kd.R_reads' ho)
 clear ho hb
 go_wp2_with fail
 refine (octet_Put.calls A2 c2 L2 4 (rs) (L2 ++ MBe.be (rs) 4) _ HO.out.2.2 HO.out.2.1 ?hf2).mono ?_
 case hf2 => unfold octet_Put.f; rw [if_pos (by have := HN2.out; omega), show octet_Put.wid 4 = 4 by decide]
 rintro e w3 ⟨v3, rfl, ho, hb⟩
 have x4 : w3.cell? ⟨w.heap.size, 4, none⟩ = some (.string data) := pw_cell_below hb X4.out
 have HS3 := Aside0.mk (show w.heap.size ≤ w2.heap.size from HB.out.size)
 replace HB := Aside0.mk (below_step (by repeat (first | (with_reducible first | exact HB.out | apply below_alloc | apply pw_below_drewN | apply below_drew1) | exact HB.out)) hb)
 obtain ⟨L3, hL3⟩ : ∃ L3, L2 ++ MBe.be (rs) 4 = L3 := ⟨_, rfl⟩
 have HN3 := Aside0.mk (show L3.length = 8 by rw [← hL3]; simp [MBe.be_length, HN2.out])
 rw [hL3] at ho
 have HE3 := Aside0.mk hL3
 have HO3 := Aside0.mk (Kd.R_lower ho HS3.out)
 clear hL3 ho hb X4 x3
 go_wp2_with ((with_reducible refine gate_builtin (b := .append) (xs := #[.tmp 25, .tmp 28]) rfl ?_); at_builtin; refine MStr.R_append_str (w0 := w) w.heap.size rfl (.tmp 25) (.tmp 28) 39 9 5 rfl Try.underlying39 Try.underlying9 info5 v3 L3 data rfl rfl HO3.out HB.out HB.out.size (by have := HS.out; have := HN3.out; omega) ?_; intro v4 w4 ho hb hg; have HO4 := Aside0.mk ho; clear HO3 HB ho hg; have HB := Aside0.mk hb; clear hb)
 go_ret
 refine ⟨v4, rfl, ?_, HB.out⟩
 have e := HO4.out
 rw [← HE3.out, ← HE.out] at e
 simpa only [List.cons_append, List.nil_append, List.append_assoc] using e

/-! ### icmp_six_ends: function 51 (by hand) -/
set_option maxHeartbeats 1000000 in
set_option maxRecDepth 100000 in
theorem icmp_six_ends.calls (s : Bool) (kind code rest : Int) (data : ByteArray) (b1 : Bool) (h1 l1 : Int) (b2 : Bool) (h2 l2 : Int) (w : World) :
  Calls Try.prog 51 #[.agg #[.bool s, .int .i64 kind, .int .i64 code, .int .i64 rest, .string data, .bool b1, .int .u64 h1, .int .u64 l1, .bool b2, .int .u64 h2, .int .u64 l2]] w fun e w' => e = .returned (.bool (b1 && b2)) ∧ Below w.heap.size w w' := by
 have hu60 := Try.underlying60
 have hu58 := Try.underlying58
 have hu23 := Try.underlying23
 have hu26 := Try.underlying26
 go_enter Try.func51, Try.ntmps51
 cases b1 <;> cases b2
 all_goals
  go_wp2
  go_ret
  exact ⟨rfl, by go_grown⟩
set_option maxHeartbeats 1000000 in
set_option maxRecDepth 100000 in
theorem icmp_four_ends.calls (cs : Array Value) (w : World) :
  Calls Try.prog 55 #[.agg cs] w fun e w' => e = .returned (.bool true) ∧ Below w.heap.size w w' := by
 go_enter Try.func55, Try.ntmps55
 go_wp2
 go_ret
 exact ⟨rfl, by go_grown⟩
set_option maxHeartbeats 1000000 in
set_option maxRecDepth 100000 in
theorem icmp_four_beside.calls (cs : Array Value) (n : Int) (w : World) :
  Calls Try.prog 54 #[.agg cs, .int .i64 n] w fun e w' => e = .returned (.int .u16 0) ∧ Below w.heap.size w w' := by
 go_enter Try.func54, Try.ntmps54
 go_wp2
 go_ret
 exact ⟨rfl, by go_grown⟩
set_option maxHeartbeats 1000000 in
set_option maxRecDepth 100000 in
theorem icmp_six_beside.calls (k : Nat) (s : Bool) (kind code rest : Int) (data : ByteArray) (b1 : Bool) (h1 l1 : Int) (b2 : Bool) (h2 l2 : Int) (n r : Int) (w : World) (h : tally_Pseudo.f k b1 h1 l1 b2 h2 l2 n 58 = some r) :
  Calls Try.prog 50 #[.agg #[.bool s, .int .i64 kind, .int .i64 code, .int .i64 rest, .string data, .bool b1, .int .u64 h1, .int .u64 l1, .bool b2, .int .u64 h2, .int .u64 l2], .int .i64 n] w fun e w' => e = .returned (.int .u16 r) ∧ Below w.heap.size w w' := by
 have hu60 := Try.underlying60
 have hu58 := Try.underlying58
 have hu23 := Try.underlying23
 have hu26 := Try.underlying26
 have H := Aside0.mk h
 clear h
 go_enter Try.func50, Try.ntmps50
 go_wp2_with fail
 refine (tally_Pseudo.calls k b1 h1 l1 b2 h2 l2 n 58 r _ H.out).mono ?_
 rintro e w2 ⟨rfl, hb⟩
 go_wp2_with fail
 go_ret
 exact ⟨rfl, below_step (by go_grown) hb⟩

/-! ### icmp_of: function 20 (by hand) -/
set_option maxHeartbeats 1000000 in
set_option maxRecDepth 100000 in
theorem icmp_of.calls (s : Bool) (kind code rest : Int) (data : ByteArray) (b1 : Bool) (h1 l1 : Int) (b2 : Bool) (h2 l2 : Int) (w : World) :
  Calls Try.prog 20 #[.agg #[.bool s, .int .i64 kind, .int .i64 code, .int .i64 rest, .string data], .agg #[.bool b1, .int .u64 h1, .int .u64 l1], .agg #[.bool b2, .int .u64 h2, .int .u64 l2]] w fun e w' => e = .returned (.iface (if s = true then 60 else 61) (.agg #[.bool s, .int .i64 kind, .int .i64 code, .int .i64 rest, .string data, .bool b1, .int .u64 h1, .int .u64 l1, .bool b2, .int .u64 h2, .int .u64 l2])) ∧ Below w.heap.size w w' := by
 have hu58 := Try.underlying58
 have hu23 := Try.underlying23
 have hu26 := Try.underlying26
 go_enter Try.func20, Try.ntmps20
 cases s
 all_goals
  go_wp2
  go_ret
  exact ⟨rfl, by go_grown⟩

/-! ### icmp_Lay: function 11 (by hand) -/
/-- What else is summed up with a message. -/
def icmp_Lay.side (k : Nat) (s : Bool) (b1 : Bool) (h1 l1 : Int) (b2 : Bool) (h2 l2 : Int) (n : Int) : Option Int := if s = true then tally_Pseudo.f k b1 h1 l1 b2 h2 l2 n 58 else some 0
def icmp_Lay.f (k : Nat) (a0_0 : Bool) (a0_1 a0_2 a0_3 : Int) (a0_4 : ByteArray) (a1_0 : Bool) (a1_1 a1_2 : Int) (a2_0 : Bool) (a2_1 a2_2 : Int) : Option (ByteArray × Int) :=
 if a0_0 = true ∧ (a1_0 && a2_0) = false then some (⟨#[]⟩, 70) else
 (icmp_base_may.f a0_0 a0_1 a0_2 a0_3 a0_4 a1_0 a1_1 a1_2 a2_0 a2_1 a2_2).bind fun m => if m = false then some (⟨#[]⟩, 70) else
 (icmp_Lay.side k a0_0 a1_0 a1_1 a1_2 a2_0 a2_1 a2_2 ((8 : Int) + (a0_4.size : Int))).bind fun p =>
 (tally_Sum.f k [icmp_base_bytes.of a0_1 a0_2 a0_3 a0_4 0]).bind fun t => (tally_Add.f p t).bind fun c =>
 if 0 ≤ c ∧ c ≤ 65535 ∧ a0_4.size ≤ 65000 then some (strOfNums (icmp_base_bytes.of a0_1 a0_2 a0_3 a0_4 (65535 - c)), 0) else none
theorem icmp_base_bytes.of_length (kind code rest : Int) (data : ByteArray) (check : Int) : (icmp_base_bytes.of kind code rest data check).length = 8 + data.size := by
 unfold icmp_base_bytes.of
 rw [List.length_append, List.length_append, List.length_append, MBe.be_length, MBe.be_length, bytesOf_length]; simp
set_option maxHeartbeats 1000000 in
set_option maxRecDepth 100000 in
theorem icmp_Lay.four (k : Nat) (kind code rest : Int) (data : ByteArray) (b1 : Bool) (h1 l1 : Int) (b2 : Bool) (h2 l2 : Int) (r : ByteArray × Int) (w : World) (h : icmp_Lay.f k false kind code rest data b1 h1 l1 b2 h2 l2 = some r) :
  Calls Try.prog 11 #[.agg #[.bool false, .int .i64 kind, .int .i64 code, .int .i64 rest, .string data], .agg #[.bool b1, .int .u64 h1, .int .u64 l1], .agg #[.bool b2, .int .u64 h2, .int .u64 l2]] w fun e w' => e = .returned (.tuple #[.string r.1, .int .i64 r.2]) ∧ Below w.heap.size w w' := by
 unfold icmp_Lay.f at h
 rw [if_neg (by simp)] at h
 obtain ⟨m, hm, h0⟩ := Option.bind_eq_some_iff.1 h
 have HM := Aside0.mk hm
 have H := Aside0.mk h0
 clear h h0 hm
 have HB := Aside0.mk (Below.refl w.heap.size w)
 have hu23 := Try.underlying23
 have hu26 := Try.underlying26
 go_enter Try.func11, Try.ntmps11
 go_wp2_with fail
 refine (icmp_of.calls false kind code rest data b1 h1 l1 b2 h2 l2 _).mono ?_
 rintro e w2 ⟨rfl, hb⟩
 replace HB := Aside0.mk (show Below w.heap.size w w2 from below_step (by go_grown) hb)
 clear hb
 rw [if_neg (by decide)]
 go_wp2_with fail
 refine (icmp_four_ends.calls _ _).mono ?_
 rintro e w3 ⟨rfl, hb⟩
 replace HB := Aside0.mk (below_step (by repeat (first | (with_reducible first | exact HB.out | apply below_alloc | apply pw_below_drewN | apply below_drew1) | exact HB.out)) hb)
 clear hb
 go_wp2_with fail
 refine (icmp_base_may.calls false kind code rest data b1 h1 l1 b2 h2 l2 m _ HM.out).mono ?_
 rintro e w4 ⟨rfl, hb⟩
 replace HB := Aside0.mk (below_step (by repeat (first | (with_reducible first | exact HB.out | apply below_alloc | apply pw_below_drewN | apply below_drew1) | exact HB.out)) hb)
 clear hb
 cases m with
 | false =>
  obtain rfl := Option.some.inj ((if_pos rfl).symm.trans H.out)
  go_wp2_with fail
  go_ret2
  exact ⟨rfl, HB.out⟩
 | true =>
  have h := H.out
  clear H
  rw [if_neg (by decide)] at h
  obtain ⟨p, hp, h_⟩ := Option.bind_eq_some_iff.1 h
  clear h
  obtain ⟨t, ht, h⟩ := Option.bind_eq_some_iff.1 h_
  clear h_
  obtain ⟨c, hc, h_⟩ := Option.bind_eq_some_iff.1 h
  clear h
  have h := h_
  clear h_
  obtain rfl : (0 : Int) = p := Option.some.inj hp
  by_cases hq : 0 ≤ c ∧ c ≤ 65535 ∧ data.size ≤ 65000
  · rw [if_pos hq] at h
    obtain rfl := Option.some.inj h
    have HT := Aside0.mk ht; have HC := Aside0.mk hc
    have HSZ := Aside0.mk (show data.size ≤ 140737488355200 by omega)
    have hc0 := hq.1; have hc1 := hq.2.1
    clear h hp ht hc hq
    go_wp2_with fail
    refine (icmp_base_bytes.calls false kind code rest data b1 h1 l1 b2 h2 l2 0 HSZ.out (by decide) _).mono ?_
    rintro e w5 ⟨v5, rfl, ho, hb⟩
    replace HB := Aside0.mk (below_step (by repeat (first | (with_reducible first | exact HB.out | apply below_alloc | apply pw_below_drewN | apply below_drew1) | exact HB.out)) hb)
    obtain ⟨A5, c5, rfl⟩ := Kd.R_slice ho
    have HO := Aside0.mk (Kd.R_reads' ho)
    clear ho hb
    obtain ⟨L5, hL5⟩ : ∃ L5, icmp_base_bytes.of kind code rest data 0 = L5 := ⟨_, rfl⟩
    rw [hL5] at HO HT ⊢
    clear hL5
    go_wp2_with fail
    refine (icmp_four_beside.calls _ _ _).mono ?_
    rintro e w6 ⟨rfl, hb⟩
    replace HB := Aside0.mk (below_step (by repeat (first | (with_reducible first | exact HB.out | apply below_alloc | apply pw_below_drewN | apply below_drew1) | exact HB.out)) hb)
    have HO6 := Aside0.mk (Kd.C_below HO.out.2.2 hb)
    clear hb
    go_wp2_with fail
    refine (tally_Sum.calls k (some _) 1 [L5] t _ (MStr.C_var HO6.out HO.out.2.1 rfl) (Nat.le_refl _) HT.out).mono ?_
    rintro e w7 ⟨rfl, ⟨nd, rfl⟩⟩
    go_wp2_with fail
    refine (tally_Add.calls 0 t c _ HC.out).mono ?_
    rintro e w8 ⟨rfl, ⟨nd8, rfl⟩⟩
    replace HB := Aside0.mk (show Below w.heap.size w _ from (by repeat (first | (with_reducible first | exact HB.out | apply below_alloc | apply pw_below_drewN | apply below_drew1) | exact HB.out)))
    go_wp2_with fail
    refine (icmp_base_bytes.calls false kind code rest data b1 h1 l1 b2 h2 l2 (65535 - c) HSZ.out (by omega) _).mono ?_
    rintro e w9 ⟨v9, rfl, ho, hb⟩
    replace HB := Aside0.mk (below_step (by repeat (first | (with_reducible first | exact HB.out | apply below_alloc | apply pw_below_drewN | apply below_drew1) | exact HB.out)) hb)
    obtain ⟨A9, c9, rfl⟩ := Kd.R_slice ho
    have hcv := Kd.C_string (src := 39) (dst := 9) (e := 5) (c := c9) Try.underlying39 Try.underlying5 Try.underlying9 (Kd.R_reads' ho).2.2
    clear ho hb
    obtain ⟨L9, hL9⟩ : ∃ L9, icmp_base_bytes.of kind code rest data (65535 - c) = L9 := ⟨_, rfl⟩
    have HL9 := Aside0.mk hL9
    rw [hL9] at hcv ⊢
    clear hL9
    go_wp2_with fail
    go_ret2
    refine ⟨?_, HB.out⟩
    rw [HL9.out]; rfl
  · rw [if_neg hq] at h; cases h
set_option maxHeartbeats 1000000 in
set_option maxRecDepth 100000 in
theorem icmp_Lay.six (k : Nat) (kind code rest : Int) (data : ByteArray) (b1 : Bool) (h1 l1 : Int) (b2 : Bool) (h2 l2 : Int) (r : ByteArray × Int) (w : World) (h : icmp_Lay.f k true kind code rest data b1 h1 l1 b2 h2 l2 = some r) :
  Calls Try.prog 11 #[.agg #[.bool true, .int .i64 kind, .int .i64 code, .int .i64 rest, .string data], .agg #[.bool b1, .int .u64 h1, .int .u64 l1], .agg #[.bool b2, .int .u64 h2, .int .u64 l2]] w fun e w' => e = .returned (.tuple #[.string r.1, .int .i64 r.2]) ∧ Below w.heap.size w w' := by
 unfold icmp_Lay.f at h
 by_cases hbb : (b1 && b2) = false
 · rw [if_pos ⟨rfl, hbb⟩] at h
   obtain rfl := Option.some.inj h
   clear h
   have HB := Aside0.mk (Below.refl w.heap.size w)
   have hu23 := Try.underlying23
   have hu26 := Try.underlying26
   go_enter Try.func11, Try.ntmps11
   go_wp2_with fail
   refine (icmp_of.calls true kind code rest data b1 h1 l1 b2 h2 l2 _).mono ?_
   rintro e w2 ⟨rfl, hb⟩
   replace HB := Aside0.mk (show Below w.heap.size w w2 from below_step (by go_grown) hb)
   clear hb
   rw [if_pos rfl]
   go_wp2_with fail
   refine (icmp_six_ends.calls true kind code rest data b1 h1 l1 b2 h2 l2 _).mono ?_
   rintro e w3 ⟨rfl, hb⟩
   replace HB := Aside0.mk (below_step (by repeat (first | (with_reducible first | exact HB.out | apply below_alloc | apply pw_below_drewN | apply below_drew1) | exact HB.out)) hb)
   clear hb
   rw [hbb]
   go_wp2_with fail
   go_ret2
   exact ⟨rfl, HB.out⟩
 rw [if_neg (fun q => hbb q.2)] at h
 replace hbb : (b1 && b2) = true := by simpa using hbb
 obtain ⟨m, hm, h0⟩ := Option.bind_eq_some_iff.1 h
 have HM := Aside0.mk hm
 have H := Aside0.mk h0
 clear h h0 hm
 have HB := Aside0.mk (Below.refl w.heap.size w)
 have hu23 := Try.underlying23
 have hu26 := Try.underlying26
 go_enter Try.func11, Try.ntmps11
 go_wp2_with fail
 refine (icmp_of.calls true kind code rest data b1 h1 l1 b2 h2 l2 _).mono ?_
 rintro e w2 ⟨rfl, hb⟩
 replace HB := Aside0.mk (show Below w.heap.size w w2 from below_step (by go_grown) hb)
 clear hb
 rw [if_pos rfl]
 go_wp2_with fail
 refine (icmp_six_ends.calls true kind code rest data b1 h1 l1 b2 h2 l2 _).mono ?_
 rintro e w3 ⟨rfl, hb⟩
 rw [hbb]
 replace HB := Aside0.mk (below_step (by repeat (first | (with_reducible first | exact HB.out | apply below_alloc | apply pw_below_drewN | apply below_drew1) | exact HB.out)) hb)
 clear hb
 go_wp2_with fail
 refine (icmp_base_may.calls true kind code rest data b1 h1 l1 b2 h2 l2 m _ HM.out).mono ?_
 rintro e w4 ⟨rfl, hb⟩
 replace HB := Aside0.mk (below_step (by repeat (first | (with_reducible first | exact HB.out | apply below_alloc | apply pw_below_drewN | apply below_drew1) | exact HB.out)) hb)
 clear hb
 cases m with
 | false =>
  obtain rfl := Option.some.inj ((if_pos rfl).symm.trans H.out)
  go_wp2_with fail
  go_ret2
  exact ⟨rfl, HB.out⟩
 | true =>
  have h := H.out
  clear H
  rw [if_neg (by decide)] at h
  obtain ⟨p, hp, h_⟩ := Option.bind_eq_some_iff.1 h
  clear h
  obtain ⟨t, ht, h⟩ := Option.bind_eq_some_iff.1 h_
  clear h_
  obtain ⟨c, hc, h_⟩ := Option.bind_eq_some_iff.1 h
  clear h
  have h := h_
  clear h_
  have hp : tally_Pseudo.f k b1 h1 l1 b2 h2 l2 ((8 : Int) + (data.size : Int)) 58 = some p := hp
  by_cases hq : 0 ≤ c ∧ c ≤ 65535 ∧ data.size ≤ 65000
  · rw [if_pos hq] at h
    obtain rfl := Option.some.inj h
    have HP := Aside0.mk hp; have HT := Aside0.mk ht; have HC := Aside0.mk hc
    have HSZ := Aside0.mk (show data.size ≤ 140737488355200 by omega)
    have hc0 := hq.1; have hc1 := hq.2.1
    clear h hp ht hc hq
    go_wp2_with fail
    refine (icmp_base_bytes.calls true kind code rest data b1 h1 l1 b2 h2 l2 0 HSZ.out (by decide) _).mono ?_
    rintro e w5 ⟨v5, rfl, ho, hb⟩
    replace HB := Aside0.mk (below_step (by repeat (first | (with_reducible first | exact HB.out | apply below_alloc | apply pw_below_drewN | apply below_drew1) | exact HB.out)) hb)
    obtain ⟨A5, c5, rfl⟩ := Kd.R_slice ho
    have HO := Aside0.mk (Kd.R_reads' ho)
    clear ho hb
    obtain ⟨L5, hL5⟩ : ∃ L5, icmp_base_bytes.of kind code rest data 0 = L5 := ⟨_, rfl⟩
    have hn5 : (L5.length : Int) = (8 : Int) + (data.size : Int) := by rw [← hL5, icmp_base_bytes.of_length]; omega
    rw [hL5] at HO HT ⊢
    rw [← hn5] at HP
    clear hL5 hn5
    go_wp2_with fail
    refine (icmp_six_beside.calls k true kind code rest data b1 h1 l1 b2 h2 l2 _ p _ HP.out).mono ?_
    rintro e w6 ⟨rfl, hb⟩
    replace HB := Aside0.mk (below_step (by repeat (first | (with_reducible first | exact HB.out | apply below_alloc | apply pw_below_drewN | apply below_drew1) | exact HB.out)) hb)
    have HO6 := Aside0.mk (Kd.C_below HO.out.2.2 hb)
    clear hb
    go_wp2_with fail
    refine (tally_Sum.calls k (some _) 1 [L5] t _ (MStr.C_var HO6.out HO.out.2.1 rfl) (Nat.le_refl _) HT.out).mono ?_
    rintro e w7 ⟨rfl, ⟨nd, rfl⟩⟩
    go_wp2_with fail
    refine (tally_Add.calls p t c _ HC.out).mono ?_
    rintro e w8 ⟨rfl, ⟨nd8, rfl⟩⟩
    replace HB := Aside0.mk (show Below w.heap.size w _ from (by repeat (first | (with_reducible first | exact HB.out | apply below_alloc | apply pw_below_drewN | apply below_drew1) | exact HB.out)))
    go_wp2_with fail
    refine (icmp_base_bytes.calls true kind code rest data b1 h1 l1 b2 h2 l2 (65535 - c) HSZ.out (by omega) _).mono ?_
    rintro e w9 ⟨v9, rfl, ho, hb⟩
    replace HB := Aside0.mk (below_step (by repeat (first | (with_reducible first | exact HB.out | apply below_alloc | apply pw_below_drewN | apply below_drew1) | exact HB.out)) hb)
    obtain ⟨A9, c9, rfl⟩ := Kd.R_slice ho
    have hcv := Kd.C_string (src := 39) (dst := 9) (e := 5) (c := c9) Try.underlying39 Try.underlying5 Try.underlying9 (Kd.R_reads' ho).2.2
    clear ho hb
    obtain ⟨L9, hL9⟩ : ∃ L9, icmp_base_bytes.of kind code rest data (65535 - c) = L9 := ⟨_, rfl⟩
    have HL9 := Aside0.mk hL9
    rw [hL9] at hcv ⊢
    clear hL9
    go_wp2_with fail
    go_ret2
    refine ⟨?_, HB.out⟩
    rw [HL9.out]; rfl
  · rw [if_neg hq] at h; cases h
theorem icmp_Lay.mono : ∀ a0 a1 a2 a3 a4 a5 a6 a7 a8 a9 a10 k, LeO (icmp_Lay.f k a0 a1 a2 a3 a4 a5 a6 a7 a8 a9 a10) (icmp_Lay.f (k + 1) a0 a1 a2 a3 a4 a5 a6 a7 a8 a9 a10) := by
 intro a0 a1 a2 a3 a4 a5 a6 a7 a8 a9 a10 k
 unfold icmp_Lay.f icmp_Lay.side
 repeat' first | (with_reducible exact tally_Sum.mono _ _) | (with_reducible exact tally_Pseudo.mono _ _ _ _ _ _ _ _ _) | (with_reducible exact LeO.refl _) | (with_reducible exact LeO.none _) | (with_reducible refine LeO.ite ?_ ?_) | (with_reducible refine LeO.bind ?_ (fun _ => ?_))
theorem icmp_Lay.calls (k : Nat) (a0_0 : Bool) (a0_1 : Int) (a0_2 : Int) (a0_3 : Int) (a0_4 : ByteArray) (a1_0 : Bool) (a1_1 : Int) (a1_2 : Int) (a2_0 : Bool) (a2_1 : Int) (a2_2 : Int) (r1 : ByteArray) (r2 : Int) (w : World) (h : icmp_Lay.f k a0_0 a0_1 a0_2 a0_3 a0_4 a1_0 a1_1 a1_2 a2_0 a2_1 a2_2 = some (r1, r2)) :
  Calls Try.prog 11 #[.agg #[.bool a0_0, .int .i64 a0_1, .int .i64 a0_2, .int .i64 a0_3, .string a0_4], .agg #[.bool a1_0, .int .u64 a1_1, .int .u64 a1_2], .agg #[.bool a2_0, .int .u64 a2_1, .int .u64 a2_2]] w fun e w' => e = .returned (.tuple #[.string r1, .int .i64 r2]) ∧ Below w.heap.size w w' := by
 cases a0_0 with
 | false => exact icmp_Lay.four k a0_1 a0_2 a0_3 a0_4 a1_0 a1_1 a1_2 a2_0 a2_1 a2_2 (r1, r2) w h
 | true => exact icmp_Lay.six k a0_1 a0_2 a0_3 a0_4 a1_0 a1_1 a1_2 a2_0 a2_1 a2_2 (r1, r2) w h

/-! ### octet_Get: function 26 -/
mutual
def octet_Get.j0 : Nat → List Int → Int → Int → Bool → Option (Int × Bool)
 | 0, _, _, _, _ => none
 | k + 1, x0, x1, x2, x33 => if x33 = true then (some (0, false)) else (octet_Get.l0 k x0 x1 0 x2 0)
def octet_Get.l0 : Nat → List Int → Int → Int → Int → Int → Option (Int × Bool)
 | 0, _, _, _, _, _ => none
 | k + 1, x0, x1, x8, x34, x35 => if x35 < x34 then (if 0 ≤ (wrap64 (x1 + x35)) then (if (wrap64 (x1 + x35)) < (x0.length : Int) then (octet_Get.l0 k x0 x1 (Go.bits .or .u64 (IntKind.u64.wrap (x8 * 256)) (IntKind.u64.wrap (rd x0 (wrap64 (x1 + x35))))) x34 (wrap64 (x35 + 1))) else (none)) else (none)) else (some (x8, true))
end
def octet_Get.f (k : Nat) (l0 : List Int) (a1 : Int) (a2 : Int) : Option (Int × Bool) := if a2 < 0 then (octet_Get.j0 k l0 a1 a2 true) else (if a2 > 8 then (octet_Get.j0 k l0 a1 a2 true) else (if a1 < 0 then (octet_Get.j0 k l0 a1 a2 true) else (if a1 > (l0.length : Int) then (octet_Get.j0 k l0 a1 a2 true) else (octet_Get.j0 k l0 a1 a2 (decide (a2 > (wrap64 ((l0.length : Int) - a1))))))))
theorem octet_Get.mono_l : ∀ k, (∀ y0 y1 y2 y3, LeO (octet_Get.j0 k y0 y1 y2 y3) (octet_Get.j0 (k + 1) y0 y1 y2 y3)) ∧ (∀ y0 y1 y2 y3 y4, LeO (octet_Get.l0 k y0 y1 y2 y3 y4) (octet_Get.l0 (k + 1) y0 y1 y2 y3 y4))
 | 0 => ⟨fun _ _ _ _ r h => by simp [octet_Get.j0] at h, fun _ _ _ _ _ r h => by simp [octet_Get.l0] at h⟩
 | k + 1 => by
  obtain ⟨ih0, ih1⟩ := octet_Get.mono_l k
  refine ⟨?_, ?_⟩
  ·
   intro y0 y1 y2 y3
   unfold octet_Get.j0
   repeat' first
   | (with_reducible exact ih0 _ _ _ _)
   | (with_reducible exact ih1 _ _ _ _ _)
   | (with_reducible exact LeO.refl _)
   | (with_reducible exact LeO.none _)
   | (with_reducible refine LeO.ite ?_ ?_)
   | (with_reducible refine LeO.bind ?_ (fun _ => ?_))
   | exact ih0 _ _ _ _
   | exact ih1 _ _ _ _ _
   | exact LeO.none _
   | refine LeO.ite ?_ ?_
   | refine LeO.bind ?_ (fun _ => ?_)
  ·
   intro y0 y1 y2 y3 y4
   unfold octet_Get.l0
   repeat' first
   | (with_reducible exact ih0 _ _ _ _)
   | (with_reducible exact ih1 _ _ _ _ _)
   | (with_reducible exact LeO.refl _)
   | (with_reducible exact LeO.none _)
   | (with_reducible refine LeO.ite ?_ ?_)
   | (with_reducible refine LeO.bind ?_ (fun _ => ?_))
   | exact ih0 _ _ _ _
   | exact ih1 _ _ _ _ _
   | exact LeO.none _
   | refine LeO.ite ?_ ?_
   | refine LeO.bind ?_ (fun _ => ?_)
theorem octet_Get.mono : ∀ a0 a1 a2 k, LeO (octet_Get.f k a0 a1 a2) (octet_Get.f (k + 1) a0 a1 a2) := by
 intro a0 a1 a2 k
 obtain ⟨ih0, ih1⟩ := octet_Get.mono_l k
 unfold octet_Get.f
 repeat' first
   | (with_reducible exact ih0 _ _ _ _)
   | (with_reducible exact ih1 _ _ _ _ _)
   | (with_reducible exact LeO.refl _)
   | (with_reducible exact LeO.none _)
   | (with_reducible refine LeO.ite ?_ ?_)
   | (with_reducible refine LeO.bind ?_ (fun _ => ?_))
   | exact ih0 _ _ _ _
   | exact ih1 _ _ _ _ _
   | exact LeO.none _
   | refine LeO.ite ?_ ?_
   | refine LeO.bind ?_ (fun _ => ?_)
set_option maxHeartbeats 8000000 in
set_option maxRecDepth 100000 in
theorem octet_Get.calls (k : Nat) (A0 : Option Addr) (c0 : Nat) (l0 : List Int) (a1 : Int) (a2 : Int) (r1 : Int) (r2 : Bool) (w : World) (hr0 : Kd.C (Kd.int .u8) w A0 l0.length l0) (hc0 : l0.length ≤ c0) (h : octet_Get.f k l0 a1 a2 = some (r1, r2)) :
  Calls Try.prog 26 #[.slice A0 l0.length c0, .int .i64 a1, .int .i64 a2] w fun e w' => e = .returned (.tuple #[.int .u64 r1, .bool r2]) ∧ Drawn0 w w' := by
 have HR0 := Aside0.mk hr0
 have HC0 := Aside0.mk hc0
 clear hr0 hc0
 have H : (if a2 < 0 then (octet_Get.j0 k l0 a1 a2 true) else (if a2 > 8 then (octet_Get.j0 k l0 a1 a2 true) else (if a1 < 0 then (octet_Get.j0 k l0 a1 a2 true) else (if a1 > (l0.length : Int) then (octet_Get.j0 k l0 a1 a2 true) else (octet_Get.j0 k l0 a1 a2 (decide (a2 > (wrap64 ((l0.length : Int) - a1))))))))) = some (r1, r2) := h
 clear h
 have HC4 := Aside0.mk H
 clear H
 go_enter Try.func26, Try.ntmps26
 go_upto_region 1 with (fail)
 go_cut [33] (fun v33 wc => ∃ (kq : Nat) (x33_3 : Bool), v33 = .bool x33_3 ∧ Aside0 (octet_Get.j0 kq l0 a1 a2 x33_3 = some (r1, r2)) ∧ Aside0 (kq ≤ k) ∧ Drawn0 w wc)
 case first =>
  have H := HC4.out
  clear HC4
  by_cases c5 : a2 < 0
  ·
   rw [if_pos c5] at H
   have c5b0 : decide (a2 < 0) = true := decide_eq_true c5
   clear c5
   (first | rw [c5b0] | (simp only [i64_w, i32_w]; rw [c5b0]) | skip)
   have H' := Aside0.mk H
   clear H
   go_wp2
   go_meet
   case rel => exact ⟨_, (true), (by first | rfl | (simp; done) | (simp [*]; done)), H', ⟨by first | omega | exact Nat.le_refl _⟩, by repeat (first | exact Drawn0.refl _ | apply Drawn0.step)⟩
  ·
   rw [if_neg c5] at H
   have c5b0 : decide (a2 < 0) = false := decide_eq_false c5
   clear c5
   (first | rw [c5b0] | (simp only [i64_w, i32_w]; rw [c5b0]) | skip)
   by_cases c6 : a2 > 8
   ·
    rw [if_pos c6] at H
    have c6b0 : decide (8 < a2) = true := decide_eq_true c6
    clear c6
    have H' := Aside0.mk H
    clear H
    go_wp2
    go_meet
    case rel => exact ⟨_, (true), (by first | rfl | (simp; done) | (simp [*]; done)), H', ⟨by first | omega | exact Nat.le_refl _⟩, by repeat (first | exact Drawn0.refl _ | apply Drawn0.step)⟩
   ·
    rw [if_neg c6] at H
    have c6b0 : decide (8 < a2) = false := decide_eq_false c6
    clear c6
    by_cases c7 : a1 < 0
    ·
     rw [if_pos c7] at H
     have c7b0 : decide (a1 < 0) = true := decide_eq_true c7
     clear c7
     have H' := Aside0.mk H
     clear H
     go_wp2
     go_meet
     case rel => exact ⟨_, (true), (by first | rfl | (simp; done) | (simp [*]; done)), H', ⟨by first | omega | exact Nat.le_refl _⟩, by repeat (first | exact Drawn0.refl _ | apply Drawn0.step)⟩
    ·
     rw [if_neg c7] at H
     have c7b0 : decide (a1 < 0) = false := decide_eq_false c7
     clear c7
     by_cases c8 : a1 > (l0.length : Int)
     ·
      rw [if_pos c8] at H
      have c8b0 : decide ((l0.length : Int) < a1) = true := decide_eq_true c8
      clear c8
      have H' := Aside0.mk H
      clear H
      go_wp2
      go_meet
      case rel => exact ⟨_, (true), (by first | rfl | (simp; done) | (simp [*]; done)), H', ⟨by first | omega | exact Nat.le_refl _⟩, by repeat (first | exact Drawn0.refl _ | apply Drawn0.step)⟩
     ·
      rw [if_neg c8] at H
      have c8b0 : decide ((l0.length : Int) < a1) = false := decide_eq_false c8
      clear c8
      have H' := Aside0.mk H
      clear H
      go_wp2
      go_meet
      case rel => exact ⟨_, (decide (a2 > (wrap64 ((l0.length : Int) - a1)))), (by first | rfl | (simp; done) | (simp [*]; done)), H', ⟨by first | omega | exact Nat.le_refl _⟩, by repeat (first | exact Drawn0.refl _ | apply Drawn0.step)⟩
 case rest =>
  clear HC4
  try clear c2
  try clear p2
  try clear c5
  try clear c5b0
  try clear c6
  try clear c6b0
  try clear p6
  try clear c7
  try clear c7b0
  try clear c8
  try clear c8b0
  obtain ⟨kq, x33_3, rfl, HA, HJ3, ⟨mc3, rfl⟩⟩ := hcut
  cases kq with
  | zero => exact absurd HA.out (by simp [octet_Get.j0])
  | succ kj3 =>
   have H := HA.out
   clear HA
   simp only [octet_Get.j0] at H
   by_cases c9 : x33_3 = true
   ·
    subst c9
    have H1 : (some (0, false)) = some (r1, r2) := by rw [if_pos rfl] at H; exact H
    clear H
    have H := H1
    clear H1
    simp only [Option.some.injEq, Prod.mk.injEq] at H
    obtain ⟨rfl, rfl⟩ := H
    go_wp2
    go_ret2
    exact ⟨by first | rfl | (simp; done) | (simp [*]; done), by repeat (first | exact Drawn0.refl _ | apply Drawn0.step)⟩
   ·
    replace c9 := Bool.eq_false_iff.mpr c9
    subst c9
    have H1 : (octet_Get.l0 kj3 l0 a1 0 a2 0) = some (r1, r2) := by rw [if_neg (show ¬ (false = true) by decide)] at H; exact H
    clear H
    have H := H1
    clear H1
    have H' := Aside0.mk H
    clear H
    go_wp2
    go_loopg [8, 35] kj3 (fun kq v8 v35 w' => ∃ (x8_2 : Int) (x35_2 : Int), v8 = .int .u64 x8_2 ∧ v35 = .int .i64 x35_2 ∧ Aside0 (octet_Get.l0 kq l0 a1 x8_2 a2 x35_2 = some (r1, r2)) ∧ Aside0 (kq ≤ kj3) ∧ Drawn0 w w')
    case atStart => exact ⟨(0), (0), (by first | rfl | (simp; done) | (simp [*]; done)), (by first | rfl | (simp; done) | (simp [*]; done)), H', ⟨Nat.le_refl _⟩, by repeat (first | exact Drawn0.refl _ | apply Drawn0.step)⟩
    case round =>
     clear H'
     try clear c2
     try clear p2
     try clear c3
     try clear c5
     try clear c5b0
     try clear c6
     try clear c6b0
     try clear p6
     try clear c7
     try clear c7b0
     try clear c8
     try clear c8b0
     try clear c9
     try clear p2
     try clear p6
     obtain ⟨x8_2, x35_2, rfl, rfl, HA, HK2, ⟨m2, rfl⟩⟩ := hrel
     cases gk with
     | zero => exact absurd HA.out (by simp [octet_Get.l0])
     | succ k2 =>
      have H := HA.out
      clear HA
      simp only [octet_Get.l0] at H
      by_cases c10 : x35_2 < a2
      ·
       rw [if_pos c10] at H
       have c10b0 : decide (x35_2 < a2) = true := decide_eq_true c10
       clear c10
       obtain ⟨ji11, hji11⟩ : ∃ j_ : Int, (wrap64 (a1 + x35_2)) = j_ := ⟨_, rfl⟩
       replace H : (if 0 ≤ (ji11) then (if (ji11) < (l0.length : Int) then (octet_Get.l0 k2 l0 a1 (Go.bits .or .u64 (IntKind.u64.wrap (x8_2 * 256)) (IntKind.u64.wrap (rd l0 (ji11)))) a2 (wrap64 (x35_2 + 1))) else (none)) else (none)) = some (r1, r2) := by first | (rw [hji11] at H; exact H) | (simp only [hji11] at H ⊢; exact H)
       have hji11w : (IntKind.i64.wrap (a1 + x35_2)) = ji11 := (i64_w _).trans hji11
       by_cases c12 : 0 ≤ (ji11)
       ·
        rw [if_pos c12] at H
        have c12b0 : decide (0 ≤ (ji11)) = true := decide_eq_true c12
        clear c12
        by_cases c13 : (ji11) < (l0.length : Int)
        ·
         rw [if_pos c13] at H
         have c13b0 : decide ((ji11) < (l0.length : Int)) = true := decide_eq_true c13
         clear c13
         have H' := Aside0.mk H
         clear H
         have p151 : 0 ≤ ((ji11) : Int) := of_decide_eq_true (by first | (with_reducible assumption) | assumption)
         have q151 : (ji11) < (l0.length : Int) := of_decide_eq_true (by first | (with_reducible assumption) | assumption)
         obtain ⟨ad151, e151, hx151_0⟩ := Kd.at_int HR0.out (ji11) p151 q151
         cases e151
         replace p151 := eq_true p151
         replace q151 := eq_true q151
         go_wp2
         go_roundg k2
         case measure => have := HJ3.out; have := HK2.out; omega
         case rel => exact ⟨(Go.bits .or .u64 (IntKind.u64.wrap (x8_2 * 256)) (IntKind.u64.wrap (rd l0 (ji11)))), (wrap64 (x35_2 + 1)), (by first | rfl | (simp; done) | (simp only [← hji11] <;> (first | rfl | simp)) | (simp [*]; done)), (by first | rfl | (simp; done) | (simp [*]; done)), H', ⟨by have := HJ3.out; have := HK2.out; omega⟩, by repeat (first | exact Drawn0.refl _ | apply Drawn0.step)⟩
        ·
         rw [if_neg c13] at H
         exact absurd H (by simp)
       ·
        rw [if_neg c12] at H
        exact absurd H (by simp)
      ·
       rw [if_neg c10] at H
       have c10b0 : decide (x35_2 < a2) = false := decide_eq_false c10
       clear c10
       simp only [Option.some.injEq, Prod.mk.injEq] at H
       obtain ⟨rfl, rfl⟩ := H
       go_wp2
       go_ret2
       exact ⟨by first | rfl | (simp; done) | (simp [*]; done), by repeat (first | exact Drawn0.refl _ | apply Drawn0.step)⟩

end Go.Proofs.Ytmkjeidejgbicaa.PBase
