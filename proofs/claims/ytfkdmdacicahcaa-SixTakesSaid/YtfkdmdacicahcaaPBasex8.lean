/- Functions of the program as Lean functions, each with a proof that a call comes to what it says. Conditions: those of each theorem. Laid by a program of this session. -/
import Derived.Test.YtfkdmdacicahcaaPBasex0
import Derived.Test.YtfkdmdacicahcaaPBasex7
namespace Go.Proofs.Ytfkdmdacicahcaa.PBase
open Go.RowKit Go.Proofs.Ytfkdmdacicahcaa Go.Proofs.YtfkdmdacicahcaaW.PrintWords Go.Proofs.YtfkdmdacicahcaaW.PrintLast Go.Proofs.YtfkdmdacicahcaaW.PrintMore
attribute [local go_sem] max2_int min2_int max_two min_two max_three min_three max_four min_four   -- for this text's walks alone
set_option linter.unusedVariables false
set_option linter.unusedSimpArgs false

/-! ### crosswayref07_Lay: function 11 -/
mutual
def crosswayref07_Lay.j0 : Nat → Bool → Int → Int → Int → Int → Bool → Int → Int → Bool → Int → Int → ByteArray → Option (ByteArray × Int)
 | 0, _, _, _, _, _, _, _, _, _, _, _, _ => none
 | k + 1, x4, x176000, x176001, x176002, x176003, x176004, x176005, x176006, x176007, x176008, x176009, x176010 => if x4 = true then (if x176004 = true then (crosswayref07_Lay.j1 k (!x176007) x176000 x176001 x176002 x176003 x176004 x176005 x176006 x176007 x176008 x176009 x176010) else (crosswayref07_Lay.j1 k true x176000 x176001 x176002 x176003 x176004 x176005 x176006 x176007 x176008 x176009 x176010)) else (crosswayref07_Lay.j1 k true x176000 x176001 x176002 x176003 x176004 x176005 x176006 x176007 x176008 x176009 x176010)
def crosswayref07_Lay.j1 : Nat → Bool → Int → Int → Int → Int → Bool → Int → Int → Bool → Int → Int → ByteArray → Option (ByteArray × Int)
 | 0, _, _, _, _, _, _, _, _, _, _, _, _ => none
 | k + 1, x37, x176000, x176001, x176002, x176003, x176004, x176005, x176006, x176007, x176008, x176009, x176010 => if x37 = true then (some ((⟨#[]⟩ : ByteArray), 60)) else (if (x176010.size : Int) > 65535 then (some ((⟨#[]⟩ : ByteArray), 62)) else ((crosswayref01_Put.f k ([] : List Int) 4 (IntKind.u64.wrap (wrap64 ((wrap64 (1610612736 + (wrap64 (x176000 * 1048576)))) + x176001)))).bind fun t180 => ((crosswayref01_Put.f k t180 2 (x176010.size : Int)).bind fun t183 => ((crosswayref01_Put.f k t183 1 (IntKind.u64.wrap (x176002))).bind fun t186 => ((crosswayref01_Put.f k t186 1 (IntKind.u64.wrap (x176003))).bind fun t189 => ((crosswayref01_Put.f k t189 8 x176005).bind fun t192 => ((crosswayref01_Put.f k t192 8 x176006).bind fun t195 => ((crosswayref01_Put.f k t195 8 x176008).bind fun t198 => ((crosswayref01_Put.f k t198 8 x176009).bind fun t201 => (if (strOfNums t201).size + x176010.size ≤ 9223372036854775807 then (some ((strOfNums t201) ++ x176010, 0)) else (none)))))))))))
end
def crosswayref07_Lay.f (k : Nat) (a0_0 : Int) (a0_1 : Int) (a0_2 : Int) (a0_3 : Int) (a0_4 : Bool) (a0_5 : Int) (a0_6 : Int) (a0_7 : Bool) (a0_8 : Int) (a0_9 : Int) (a0_10 : ByteArray) : Option (ByteArray × Int) := (crosswayref07_between.f a0_0 255).bind fun t176 => (if t176 = true then ((crosswayref07_between.f a0_2 255).bind fun t177 => (if t177 = true then ((crosswayref07_between.f a0_3 255).bind fun t178 => (if t178 = true then ((crosswayref07_between.f a0_1 1048575).bind fun t179 => (crosswayref07_Lay.j0 k t179 a0_0 a0_1 a0_2 a0_3 a0_4 a0_5 a0_6 a0_7 a0_8 a0_9 a0_10)) else (crosswayref07_Lay.j0 k false a0_0 a0_1 a0_2 a0_3 a0_4 a0_5 a0_6 a0_7 a0_8 a0_9 a0_10))) else (crosswayref07_Lay.j0 k false a0_0 a0_1 a0_2 a0_3 a0_4 a0_5 a0_6 a0_7 a0_8 a0_9 a0_10))) else (crosswayref07_Lay.j0 k false a0_0 a0_1 a0_2 a0_3 a0_4 a0_5 a0_6 a0_7 a0_8 a0_9 a0_10))
theorem crosswayref07_Lay.mono_l : ∀ k, (∀ y0 y1 y2 y3 y4 y5 y6 y7 y8 y9 y10 y11, LeO (crosswayref07_Lay.j0 k y0 y1 y2 y3 y4 y5 y6 y7 y8 y9 y10 y11) (crosswayref07_Lay.j0 (k + 1) y0 y1 y2 y3 y4 y5 y6 y7 y8 y9 y10 y11)) ∧ (∀ y0 y1 y2 y3 y4 y5 y6 y7 y8 y9 y10 y11, LeO (crosswayref07_Lay.j1 k y0 y1 y2 y3 y4 y5 y6 y7 y8 y9 y10 y11) (crosswayref07_Lay.j1 (k + 1) y0 y1 y2 y3 y4 y5 y6 y7 y8 y9 y10 y11))
 | 0 => ⟨fun _ _ _ _ _ _ _ _ _ _ _ _ r h => by simp [crosswayref07_Lay.j0] at h, fun _ _ _ _ _ _ _ _ _ _ _ _ r h => by simp [crosswayref07_Lay.j1] at h⟩
 | k + 1 => by
  obtain ⟨ih0, ih1⟩ := crosswayref07_Lay.mono_l k
  refine ⟨?_, ?_⟩
  ·
   intro y0 y1 y2 y3 y4 y5 y6 y7 y8 y9 y10 y11
   unfold crosswayref07_Lay.j0
   repeat' first
   | (with_reducible exact ih0 _ _ _ _ _ _ _ _ _ _ _ _)
   | (with_reducible exact ih1 _ _ _ _ _ _ _ _ _ _ _ _)
   | (with_reducible exact crosswayref01_Put.mono _ _ _ _)
   | (with_reducible exact LeO.refl _)
   | (with_reducible exact LeO.none _)
   | (with_reducible refine LeO.ite ?_ ?_)
   | (with_reducible refine LeO.bind ?_ (fun _ => ?_))
   | exact ih0 _ _ _ _ _ _ _ _ _ _ _ _
   | exact ih1 _ _ _ _ _ _ _ _ _ _ _ _
   | exact crosswayref01_Put.mono _ _ _ _
   | exact LeO.none _
   | refine LeO.ite ?_ ?_
   | refine LeO.bind ?_ (fun _ => ?_)
  ·
   intro y0 y1 y2 y3 y4 y5 y6 y7 y8 y9 y10 y11
   unfold crosswayref07_Lay.j1
   repeat' first
   | (with_reducible exact ih0 _ _ _ _ _ _ _ _ _ _ _ _)
   | (with_reducible exact ih1 _ _ _ _ _ _ _ _ _ _ _ _)
   | (with_reducible exact crosswayref01_Put.mono _ _ _ _)
   | (with_reducible exact LeO.refl _)
   | (with_reducible exact LeO.none _)
   | (with_reducible refine LeO.ite ?_ ?_)
   | (with_reducible refine LeO.bind ?_ (fun _ => ?_))
   | exact ih0 _ _ _ _ _ _ _ _ _ _ _ _
   | exact ih1 _ _ _ _ _ _ _ _ _ _ _ _
   | exact crosswayref01_Put.mono _ _ _ _
   | exact LeO.none _
   | refine LeO.ite ?_ ?_
   | refine LeO.bind ?_ (fun _ => ?_)
theorem crosswayref07_Lay.mono : ∀ a0 a1 a2 a3 a4 a5 a6 a7 a8 a9 a10 k, LeO (crosswayref07_Lay.f k a0 a1 a2 a3 a4 a5 a6 a7 a8 a9 a10) (crosswayref07_Lay.f (k + 1) a0 a1 a2 a3 a4 a5 a6 a7 a8 a9 a10) := by
 intro a0 a1 a2 a3 a4 a5 a6 a7 a8 a9 a10 k
 obtain ⟨ih0, ih1⟩ := crosswayref07_Lay.mono_l k
 unfold crosswayref07_Lay.f
 repeat' first
   | (with_reducible exact ih0 _ _ _ _ _ _ _ _ _ _ _ _)
   | (with_reducible exact ih1 _ _ _ _ _ _ _ _ _ _ _ _)
   | (with_reducible exact crosswayref01_Put.mono _ _ _ _)
   | (with_reducible exact LeO.refl _)
   | (with_reducible exact LeO.none _)
   | (with_reducible refine LeO.ite ?_ ?_)
   | (with_reducible refine LeO.bind ?_ (fun _ => ?_))
   | exact ih0 _ _ _ _ _ _ _ _ _ _ _ _
   | exact ih1 _ _ _ _ _ _ _ _ _ _ _ _
   | exact crosswayref01_Put.mono _ _ _ _
   | exact LeO.none _
   | refine LeO.ite ?_ ?_
   | refine LeO.bind ?_ (fun _ => ?_)
set_option maxHeartbeats 8000000 in
set_option maxRecDepth 100000 in
theorem crosswayref07_Lay.calls (k : Nat) (a0_0 : Int) (a0_1 : Int) (a0_2 : Int) (a0_3 : Int) (a0_4 : Bool) (a0_5 : Int) (a0_6 : Int) (a0_7 : Bool) (a0_8 : Int) (a0_9 : Int) (a0_10 : ByteArray) (r1 : ByteArray) (r2 : Int) (w : World) (h : crosswayref07_Lay.f k a0_0 a0_1 a0_2 a0_3 a0_4 a0_5 a0_6 a0_7 a0_8 a0_9 a0_10 = some (r1, r2)) :
  Calls Try.prog 11 #[.agg #[.int .i64 a0_0, .int .i64 a0_1, .int .i64 a0_2, .int .i64 a0_3, .bool a0_4, .int .u64 a0_5, .int .u64 a0_6, .bool a0_7, .int .u64 a0_8, .int .u64 a0_9, .string a0_10]] w fun e w' => e = .returned (.tuple #[.string r1, .int .i64 r2]) ∧ Below w.heap.size w w' := by
 have hu26 := Try.underlying26
 have HB := Aside0.mk (Below.refl w.heap.size w)
 have H : ((crosswayref07_between.f a0_0 255).bind fun t176 => (if t176 = true then ((crosswayref07_between.f a0_2 255).bind fun t177 => (if t177 = true then ((crosswayref07_between.f a0_3 255).bind fun t178 => (if t178 = true then ((crosswayref07_between.f a0_1 1048575).bind fun t179 => (crosswayref07_Lay.j0 k t179 a0_0 a0_1 a0_2 a0_3 a0_4 a0_5 a0_6 a0_7 a0_8 a0_9 a0_10)) else (crosswayref07_Lay.j0 k false a0_0 a0_1 a0_2 a0_3 a0_4 a0_5 a0_6 a0_7 a0_8 a0_9 a0_10))) else (crosswayref07_Lay.j0 k false a0_0 a0_1 a0_2 a0_3 a0_4 a0_5 a0_6 a0_7 a0_8 a0_9 a0_10))) else (crosswayref07_Lay.j0 k false a0_0 a0_1 a0_2 a0_3 a0_4 a0_5 a0_6 a0_7 a0_8 a0_9 a0_10))) = some (r1, r2) := h
 clear h
 have HC2 := Aside0.mk H
 clear H
 go_enter Try.func11, Try.ntmps11
 go_upto_region 1 with (first | ((with_reducible refine gate_dst (N := 1) rfl ?_); refine box_event ?hg (N := 1) ?hd (cs := #[.int .i64 a0_0, .int .i64 a0_1, .int .i64 a0_2, .int .i64 a0_3, .bool a0_4, .int .u64 a0_5, .int .u64 a0_6, .bool a0_7, .int .u64 a0_8, .int .u64 a0_9, .string a0_10]) (t := 26) ?hr ?_; (case hd => rfl); (case hg => rfl); (case hr => first | (go_simp; done) | (go_simp; rfl)); intro gb175 hg w3 hbox hb; have n0_ := Aside0.mk (below_step (by repeat (first | (with_reducible first | exact HB.out | apply below_alloc | apply pw_below_drewN | apply below_drew1) | exact HB.out)) hb); have n1_ := Aside0.mk (hbox); have n2_ := Aside0.mk ((by rw [hg]; exact (below_size (by repeat (first | (with_reducible first | exact HB.out | apply below_alloc | apply pw_below_drewN | apply below_drew1) | exact HB.out))) : w.heap.size ≤ gb175)); have n3_ := Aside0.mk ((by rw [hg]; exact (below_size (by repeat (first | (with_reducible first | exact HB.out | apply below_alloc | apply pw_below_drewN | apply below_drew1) | exact HB.out))) : w.heap.size ≤ gb175)); clear HB; have HB := n0_; have BK175 := n1_; have GW175 := n2_; have GE175 := n3_; clear n0_ n1_ n2_ n3_; clear hb hbox hg))
 (try simp only [Act.put, List.setIfInBounds_toArray, List.set_cons_zero, List.set_cons_succ])
 go_cut [4] (fun v4 wc => ∃ (kq : Nat) (x4_1 : Bool), v4 = .bool x4_1 ∧ Aside0 (crosswayref07_Lay.j0 kq x4_1 a0_0 a0_1 a0_2 a0_3 a0_4 a0_5 a0_6 a0_7 a0_8 a0_9 a0_10 = some (r1, r2)) ∧ Aside0 (kq ≤ k) ∧ Aside0 (wc.heap[gb175]? = some (.cells #[.int .i64 a0_0, .int .i64 a0_1, .int .i64 a0_2, .int .i64 a0_3, .bool a0_4, .int .u64 a0_5, .int .u64 a0_6, .bool a0_7, .int .u64 a0_8, .int .u64 a0_9, .string a0_10] 26 (0, 0))) ∧ Aside0 (Below w.heap.size w wc))
 case first =>
  have H := HC2.out
  clear HC2
  replace H := Option.bind_eq_some_iff.mp H
  obtain ⟨t176, A40, H⟩ := H
  replace H : (if t176 = true then ((crosswayref07_between.f a0_2 255).bind fun t177 => (if t177 = true then ((crosswayref07_between.f a0_3 255).bind fun t178 => (if t178 = true then ((crosswayref07_between.f a0_1 1048575).bind fun t179 => (crosswayref07_Lay.j0 k t179 a0_0 a0_1 a0_2 a0_3 a0_4 a0_5 a0_6 a0_7 a0_8 a0_9 a0_10)) else (crosswayref07_Lay.j0 k false a0_0 a0_1 a0_2 a0_3 a0_4 a0_5 a0_6 a0_7 a0_8 a0_9 a0_10))) else (crosswayref07_Lay.j0 k false a0_0 a0_1 a0_2 a0_3 a0_4 a0_5 a0_6 a0_7 a0_8 a0_9 a0_10))) else (crosswayref07_Lay.j0 k false a0_0 a0_1 a0_2 a0_3 a0_4 a0_5 a0_6 a0_7 a0_8 a0_9 a0_10)) = some (r1, r2) := H
  have A4 := Aside0.mk A40
  clear A40
  by_cases c5 : t176 = true
  ·
   subst c5
   have H1 : ((crosswayref07_between.f a0_2 255).bind fun t177 => (if t177 = true then ((crosswayref07_between.f a0_3 255).bind fun t178 => (if t178 = true then ((crosswayref07_between.f a0_1 1048575).bind fun t179 => (crosswayref07_Lay.j0 k t179 a0_0 a0_1 a0_2 a0_3 a0_4 a0_5 a0_6 a0_7 a0_8 a0_9 a0_10)) else (crosswayref07_Lay.j0 k false a0_0 a0_1 a0_2 a0_3 a0_4 a0_5 a0_6 a0_7 a0_8 a0_9 a0_10))) else (crosswayref07_Lay.j0 k false a0_0 a0_1 a0_2 a0_3 a0_4 a0_5 a0_6 a0_7 a0_8 a0_9 a0_10))) = some (r1, r2) := by rw [if_pos rfl] at H; exact H
   clear H
   have H := H1
   clear H1
   replace H := Option.bind_eq_some_iff.mp H
   obtain ⟨t177, A60, H⟩ := H
   replace H : (if t177 = true then ((crosswayref07_between.f a0_3 255).bind fun t178 => (if t178 = true then ((crosswayref07_between.f a0_1 1048575).bind fun t179 => (crosswayref07_Lay.j0 k t179 a0_0 a0_1 a0_2 a0_3 a0_4 a0_5 a0_6 a0_7 a0_8 a0_9 a0_10)) else (crosswayref07_Lay.j0 k false a0_0 a0_1 a0_2 a0_3 a0_4 a0_5 a0_6 a0_7 a0_8 a0_9 a0_10))) else (crosswayref07_Lay.j0 k false a0_0 a0_1 a0_2 a0_3 a0_4 a0_5 a0_6 a0_7 a0_8 a0_9 a0_10)) = some (r1, r2) := H
   have A6 := Aside0.mk A60
   clear A60
   by_cases c7 : t177 = true
   ·
    subst c7
    have H1 : ((crosswayref07_between.f a0_3 255).bind fun t178 => (if t178 = true then ((crosswayref07_between.f a0_1 1048575).bind fun t179 => (crosswayref07_Lay.j0 k t179 a0_0 a0_1 a0_2 a0_3 a0_4 a0_5 a0_6 a0_7 a0_8 a0_9 a0_10)) else (crosswayref07_Lay.j0 k false a0_0 a0_1 a0_2 a0_3 a0_4 a0_5 a0_6 a0_7 a0_8 a0_9 a0_10))) = some (r1, r2) := by rw [if_pos rfl] at H; exact H
    clear H
    have H := H1
    clear H1
    replace H := Option.bind_eq_some_iff.mp H
    obtain ⟨t178, A80, H⟩ := H
    replace H : (if t178 = true then ((crosswayref07_between.f a0_1 1048575).bind fun t179 => (crosswayref07_Lay.j0 k t179 a0_0 a0_1 a0_2 a0_3 a0_4 a0_5 a0_6 a0_7 a0_8 a0_9 a0_10)) else (crosswayref07_Lay.j0 k false a0_0 a0_1 a0_2 a0_3 a0_4 a0_5 a0_6 a0_7 a0_8 a0_9 a0_10)) = some (r1, r2) := H
    have A8 := Aside0.mk A80
    clear A80
    by_cases c9 : t178 = true
    ·
     subst c9
     have H1 : ((crosswayref07_between.f a0_1 1048575).bind fun t179 => (crosswayref07_Lay.j0 k t179 a0_0 a0_1 a0_2 a0_3 a0_4 a0_5 a0_6 a0_7 a0_8 a0_9 a0_10)) = some (r1, r2) := by rw [if_pos rfl] at H; exact H
     clear H
     have H := H1
     clear H1
     replace H := Option.bind_eq_some_iff.mp H
     obtain ⟨t179, A100, H⟩ := H
     replace H : (crosswayref07_Lay.j0 k t179 a0_0 a0_1 a0_2 a0_3 a0_4 a0_5 a0_6 a0_7 a0_8 a0_9 a0_10) = some (r1, r2) := H
     have A10 := Aside0.mk A100
     clear A100
     have H' := Aside0.mk H
     clear H
     have hcz11_0 : w3.cell? ⟨gb175, 0, none⟩ = some (.int .i64 a0_0) := (blk_cell BK175.out 0).trans rfl
     have hcz11_1 : w3.cell? ⟨gb175, 1, none⟩ = some (.int .i64 a0_1) := (blk_cell BK175.out 1).trans rfl
     have hcz11_2 : w3.cell? ⟨gb175, 2, none⟩ = some (.int .i64 a0_2) := (blk_cell BK175.out 2).trans rfl
     have hcz11_3 : w3.cell? ⟨gb175, 3, none⟩ = some (.int .i64 a0_3) := (blk_cell BK175.out 3).trans rfl
     have hcz11_4 : w3.cell? ⟨gb175, 4, none⟩ = some (.bool a0_4) := (blk_cell BK175.out 4).trans rfl
     have hcz11_5 : w3.cell? ⟨gb175, 5, none⟩ = some (.int .u64 a0_5) := (blk_cell BK175.out 5).trans rfl
     have hcz11_6 : w3.cell? ⟨gb175, 6, none⟩ = some (.int .u64 a0_6) := (blk_cell BK175.out 6).trans rfl
     have hcz11_7 : w3.cell? ⟨gb175, 7, none⟩ = some (.bool a0_7) := (blk_cell BK175.out 7).trans rfl
     have hcz11_8 : w3.cell? ⟨gb175, 8, none⟩ = some (.int .u64 a0_8) := (blk_cell BK175.out 8).trans rfl
     have hcz11_9 : w3.cell? ⟨gb175, 9, none⟩ = some (.int .u64 a0_9) := (blk_cell BK175.out 9).trans rfl
     have hcz11_10 : w3.cell? ⟨gb175, 10, none⟩ = some (.string a0_10) := (blk_cell BK175.out 10).trans rfl
     have hfz11_0 := blk_frozen BK175.out 0
     have hfz11_1 := blk_frozen BK175.out 1
     have hfz11_2 := blk_frozen BK175.out 2
     have hfz11_3 := blk_frozen BK175.out 3
     have hfz11_4 := blk_frozen BK175.out 4
     have hfz11_5 := blk_frozen BK175.out 5
     have hfz11_6 := blk_frozen BK175.out 6
     have hfz11_7 := blk_frozen BK175.out 7
     have hfz11_8 := blk_frozen BK175.out 8
     have hfz11_9 := blk_frozen BK175.out 9
     have hfz11_10 := blk_frozen BK175.out 10
     go_wp2_with (first | ((with_reducible refine gate_callee (f := 24) rfl ?_); refine goesL_ (some 8) rfl rfl Try.func24 (by kernel_rfl) rfl #[.int .i64 a0_0, .int .i64 255] rfl (by (try simp only [List.map_toArray, List.map_cons, List.map_nil]); first | done | rfl | (simp only [List.length_drop, List.length_take]; rfl)) ?_; (with_reducible refine (crosswayref07_between.calls a0_0 255 true _ A4.out).mono ?_); rintro e w' ⟨rfl, ⟨nd, rfl⟩⟩; refine ⟨_, rfl, ?_⟩) | (go_at_call 24; (with_reducible refine (crosswayref07_between.calls a0_2 255 true _ A6.out).mono ?_); rintro e w' ⟨rfl, ⟨nd, rfl⟩⟩) | (go_at_call 24; (with_reducible refine (crosswayref07_between.calls a0_3 255 true _ A8.out).mono ?_); rintro e w' ⟨rfl, ⟨nd, rfl⟩⟩) | (go_at_call 24; (with_reducible refine (crosswayref07_between.calls a0_1 1048575 t179 _ A10.out).mono ?_); rintro e w' ⟨rfl, ⟨nd, rfl⟩⟩))
     go_meet
     case rel => exact ⟨_, (t179), (by first | rfl | (simp; done) | (simp [*]; done)), H', ⟨by first | omega | exact Nat.le_refl _⟩, ⟨by (with_reducible repeat (first | refine blk_drewN ?_ _ | refine blk_drew ?_ | refine blk_alloc ?_ _)); exact BK175.out⟩, ⟨by repeat (first | (with_reducible first | exact HB.out | apply below_alloc | apply pw_below_drewN | apply below_drew1 | refine below_set ?_ GE175.out) | exact HB.out)⟩⟩
    ·
     replace c9 := Bool.eq_false_iff.mpr c9
     subst c9
     have H1 : (crosswayref07_Lay.j0 k false a0_0 a0_1 a0_2 a0_3 a0_4 a0_5 a0_6 a0_7 a0_8 a0_9 a0_10) = some (r1, r2) := by rw [if_neg (show ¬ (false = true) by decide)] at H; exact H
     clear H
     have H := H1
     clear H1
     have H' := Aside0.mk H
     clear H
     have hcz12_0 : w3.cell? ⟨gb175, 0, none⟩ = some (.int .i64 a0_0) := (blk_cell BK175.out 0).trans rfl
     have hcz12_1 : w3.cell? ⟨gb175, 1, none⟩ = some (.int .i64 a0_1) := (blk_cell BK175.out 1).trans rfl
     have hcz12_2 : w3.cell? ⟨gb175, 2, none⟩ = some (.int .i64 a0_2) := (blk_cell BK175.out 2).trans rfl
     have hcz12_3 : w3.cell? ⟨gb175, 3, none⟩ = some (.int .i64 a0_3) := (blk_cell BK175.out 3).trans rfl
     have hcz12_4 : w3.cell? ⟨gb175, 4, none⟩ = some (.bool a0_4) := (blk_cell BK175.out 4).trans rfl
     have hcz12_5 : w3.cell? ⟨gb175, 5, none⟩ = some (.int .u64 a0_5) := (blk_cell BK175.out 5).trans rfl
     have hcz12_6 : w3.cell? ⟨gb175, 6, none⟩ = some (.int .u64 a0_6) := (blk_cell BK175.out 6).trans rfl
     have hcz12_7 : w3.cell? ⟨gb175, 7, none⟩ = some (.bool a0_7) := (blk_cell BK175.out 7).trans rfl
     have hcz12_8 : w3.cell? ⟨gb175, 8, none⟩ = some (.int .u64 a0_8) := (blk_cell BK175.out 8).trans rfl
     have hcz12_9 : w3.cell? ⟨gb175, 9, none⟩ = some (.int .u64 a0_9) := (blk_cell BK175.out 9).trans rfl
     have hcz12_10 : w3.cell? ⟨gb175, 10, none⟩ = some (.string a0_10) := (blk_cell BK175.out 10).trans rfl
     have hfz12_0 := blk_frozen BK175.out 0
     have hfz12_1 := blk_frozen BK175.out 1
     have hfz12_2 := blk_frozen BK175.out 2
     have hfz12_3 := blk_frozen BK175.out 3
     have hfz12_4 := blk_frozen BK175.out 4
     have hfz12_5 := blk_frozen BK175.out 5
     have hfz12_6 := blk_frozen BK175.out 6
     have hfz12_7 := blk_frozen BK175.out 7
     have hfz12_8 := blk_frozen BK175.out 8
     have hfz12_9 := blk_frozen BK175.out 9
     have hfz12_10 := blk_frozen BK175.out 10
     go_wp2_with (first | ((with_reducible refine gate_callee (f := 24) rfl ?_); refine goesL_ (some 8) rfl rfl Try.func24 (by kernel_rfl) rfl #[.int .i64 a0_0, .int .i64 255] rfl (by (try simp only [List.map_toArray, List.map_cons, List.map_nil]); first | done | rfl | (simp only [List.length_drop, List.length_take]; rfl)) ?_; (with_reducible refine (crosswayref07_between.calls a0_0 255 true _ A4.out).mono ?_); rintro e w' ⟨rfl, ⟨nd, rfl⟩⟩; refine ⟨_, rfl, ?_⟩) | (go_at_call 24; (with_reducible refine (crosswayref07_between.calls a0_2 255 true _ A6.out).mono ?_); rintro e w' ⟨rfl, ⟨nd, rfl⟩⟩) | (go_at_call 24; (with_reducible refine (crosswayref07_between.calls a0_3 255 false _ A8.out).mono ?_); rintro e w' ⟨rfl, ⟨nd, rfl⟩⟩))
     go_meet
     case rel => exact ⟨_, (false), (by first | rfl | (simp; done) | (simp [*]; done)), H', ⟨by first | omega | exact Nat.le_refl _⟩, ⟨by (with_reducible repeat (first | refine blk_drewN ?_ _ | refine blk_drew ?_ | refine blk_alloc ?_ _)); exact BK175.out⟩, ⟨by repeat (first | (with_reducible first | exact HB.out | apply below_alloc | apply pw_below_drewN | apply below_drew1 | refine below_set ?_ GE175.out) | exact HB.out)⟩⟩
   ·
    replace c7 := Bool.eq_false_iff.mpr c7
    subst c7
    have H1 : (crosswayref07_Lay.j0 k false a0_0 a0_1 a0_2 a0_3 a0_4 a0_5 a0_6 a0_7 a0_8 a0_9 a0_10) = some (r1, r2) := by rw [if_neg (show ¬ (false = true) by decide)] at H; exact H
    clear H
    have H := H1
    clear H1
    have H' := Aside0.mk H
    clear H
    have hcz13_0 : w3.cell? ⟨gb175, 0, none⟩ = some (.int .i64 a0_0) := (blk_cell BK175.out 0).trans rfl
    have hcz13_1 : w3.cell? ⟨gb175, 1, none⟩ = some (.int .i64 a0_1) := (blk_cell BK175.out 1).trans rfl
    have hcz13_2 : w3.cell? ⟨gb175, 2, none⟩ = some (.int .i64 a0_2) := (blk_cell BK175.out 2).trans rfl
    have hcz13_3 : w3.cell? ⟨gb175, 3, none⟩ = some (.int .i64 a0_3) := (blk_cell BK175.out 3).trans rfl
    have hcz13_4 : w3.cell? ⟨gb175, 4, none⟩ = some (.bool a0_4) := (blk_cell BK175.out 4).trans rfl
    have hcz13_5 : w3.cell? ⟨gb175, 5, none⟩ = some (.int .u64 a0_5) := (blk_cell BK175.out 5).trans rfl
    have hcz13_6 : w3.cell? ⟨gb175, 6, none⟩ = some (.int .u64 a0_6) := (blk_cell BK175.out 6).trans rfl
    have hcz13_7 : w3.cell? ⟨gb175, 7, none⟩ = some (.bool a0_7) := (blk_cell BK175.out 7).trans rfl
    have hcz13_8 : w3.cell? ⟨gb175, 8, none⟩ = some (.int .u64 a0_8) := (blk_cell BK175.out 8).trans rfl
    have hcz13_9 : w3.cell? ⟨gb175, 9, none⟩ = some (.int .u64 a0_9) := (blk_cell BK175.out 9).trans rfl
    have hcz13_10 : w3.cell? ⟨gb175, 10, none⟩ = some (.string a0_10) := (blk_cell BK175.out 10).trans rfl
    have hfz13_0 := blk_frozen BK175.out 0
    have hfz13_1 := blk_frozen BK175.out 1
    have hfz13_2 := blk_frozen BK175.out 2
    have hfz13_3 := blk_frozen BK175.out 3
    have hfz13_4 := blk_frozen BK175.out 4
    have hfz13_5 := blk_frozen BK175.out 5
    have hfz13_6 := blk_frozen BK175.out 6
    have hfz13_7 := blk_frozen BK175.out 7
    have hfz13_8 := blk_frozen BK175.out 8
    have hfz13_9 := blk_frozen BK175.out 9
    have hfz13_10 := blk_frozen BK175.out 10
    go_wp2_with (first | ((with_reducible refine gate_callee (f := 24) rfl ?_); refine goesL_ (some 8) rfl rfl Try.func24 (by kernel_rfl) rfl #[.int .i64 a0_0, .int .i64 255] rfl (by (try simp only [List.map_toArray, List.map_cons, List.map_nil]); first | done | rfl | (simp only [List.length_drop, List.length_take]; rfl)) ?_; (with_reducible refine (crosswayref07_between.calls a0_0 255 true _ A4.out).mono ?_); rintro e w' ⟨rfl, ⟨nd, rfl⟩⟩; refine ⟨_, rfl, ?_⟩) | (go_at_call 24; (with_reducible refine (crosswayref07_between.calls a0_2 255 false _ A6.out).mono ?_); rintro e w' ⟨rfl, ⟨nd, rfl⟩⟩))
    go_meet
    case rel => exact ⟨_, (false), (by first | rfl | (simp; done) | (simp [*]; done)), H', ⟨by first | omega | exact Nat.le_refl _⟩, ⟨by (with_reducible repeat (first | refine blk_drewN ?_ _ | refine blk_drew ?_ | refine blk_alloc ?_ _)); exact BK175.out⟩, ⟨by repeat (first | (with_reducible first | exact HB.out | apply below_alloc | apply pw_below_drewN | apply below_drew1 | refine below_set ?_ GE175.out) | exact HB.out)⟩⟩
  ·
   replace c5 := Bool.eq_false_iff.mpr c5
   subst c5
   have H1 : (crosswayref07_Lay.j0 k false a0_0 a0_1 a0_2 a0_3 a0_4 a0_5 a0_6 a0_7 a0_8 a0_9 a0_10) = some (r1, r2) := by rw [if_neg (show ¬ (false = true) by decide)] at H; exact H
   clear H
   have H := H1
   clear H1
   have H' := Aside0.mk H
   clear H
   have hcz14_0 : w3.cell? ⟨gb175, 0, none⟩ = some (.int .i64 a0_0) := (blk_cell BK175.out 0).trans rfl
   have hcz14_1 : w3.cell? ⟨gb175, 1, none⟩ = some (.int .i64 a0_1) := (blk_cell BK175.out 1).trans rfl
   have hcz14_2 : w3.cell? ⟨gb175, 2, none⟩ = some (.int .i64 a0_2) := (blk_cell BK175.out 2).trans rfl
   have hcz14_3 : w3.cell? ⟨gb175, 3, none⟩ = some (.int .i64 a0_3) := (blk_cell BK175.out 3).trans rfl
   have hcz14_4 : w3.cell? ⟨gb175, 4, none⟩ = some (.bool a0_4) := (blk_cell BK175.out 4).trans rfl
   have hcz14_5 : w3.cell? ⟨gb175, 5, none⟩ = some (.int .u64 a0_5) := (blk_cell BK175.out 5).trans rfl
   have hcz14_6 : w3.cell? ⟨gb175, 6, none⟩ = some (.int .u64 a0_6) := (blk_cell BK175.out 6).trans rfl
   have hcz14_7 : w3.cell? ⟨gb175, 7, none⟩ = some (.bool a0_7) := (blk_cell BK175.out 7).trans rfl
   have hcz14_8 : w3.cell? ⟨gb175, 8, none⟩ = some (.int .u64 a0_8) := (blk_cell BK175.out 8).trans rfl
   have hcz14_9 : w3.cell? ⟨gb175, 9, none⟩ = some (.int .u64 a0_9) := (blk_cell BK175.out 9).trans rfl
   have hcz14_10 : w3.cell? ⟨gb175, 10, none⟩ = some (.string a0_10) := (blk_cell BK175.out 10).trans rfl
   have hfz14_0 := blk_frozen BK175.out 0
   have hfz14_1 := blk_frozen BK175.out 1
   have hfz14_2 := blk_frozen BK175.out 2
   have hfz14_3 := blk_frozen BK175.out 3
   have hfz14_4 := blk_frozen BK175.out 4
   have hfz14_5 := blk_frozen BK175.out 5
   have hfz14_6 := blk_frozen BK175.out 6
   have hfz14_7 := blk_frozen BK175.out 7
   have hfz14_8 := blk_frozen BK175.out 8
   have hfz14_9 := blk_frozen BK175.out 9
   have hfz14_10 := blk_frozen BK175.out 10
   go_wp2_with (first | ((with_reducible refine gate_callee (f := 24) rfl ?_); refine goesL_ (some 8) rfl rfl Try.func24 (by kernel_rfl) rfl #[.int .i64 a0_0, .int .i64 255] rfl (by (try simp only [List.map_toArray, List.map_cons, List.map_nil]); first | done | rfl | (simp only [List.length_drop, List.length_take]; rfl)) ?_; (with_reducible refine (crosswayref07_between.calls a0_0 255 false _ A4.out).mono ?_); rintro e w' ⟨rfl, ⟨nd, rfl⟩⟩; refine ⟨_, rfl, ?_⟩))
   go_meet
   case rel => exact ⟨_, (false), (by first | rfl | (simp; done) | (simp [*]; done)), H', ⟨by first | omega | exact Nat.le_refl _⟩, ⟨by (with_reducible repeat (first | refine blk_drewN ?_ _ | refine blk_drew ?_ | refine blk_alloc ?_ _)); exact BK175.out⟩, ⟨by repeat (first | (with_reducible first | exact HB.out | apply below_alloc | apply pw_below_drewN | apply below_drew1 | refine below_set ?_ GE175.out) | exact HB.out)⟩⟩
 case rest =>
  clear HC2
  try clear c1
  try clear c2
  try clear p2
  try clear c5
  try clear c7
  try clear c9
  try clear c11
  try clear hcz11_0
  try clear hcz11_1
  try clear hcz11_10
  try clear hcz11_2
  try clear hcz11_3
  try clear hcz11_4
  try clear hcz11_5
  try clear hcz11_6
  try clear hcz11_7
  try clear hcz11_8
  try clear hcz11_9
  try clear hcz12_0
  try clear hcz12_1
  try clear hcz12_10
  try clear hcz12_2
  try clear hcz12_3
  try clear hcz12_4
  try clear hcz12_5
  try clear hcz12_6
  try clear hcz12_7
  try clear hcz12_8
  try clear hcz12_9
  try clear hcz13_0
  try clear hcz13_1
  try clear hcz13_10
  try clear hcz13_2
  try clear hcz13_3
  try clear hcz13_4
  try clear hcz13_5
  try clear hcz13_6
  try clear hcz13_7
  try clear hcz13_8
  try clear hcz13_9
  try clear hcz14_0
  try clear hcz14_1
  try clear hcz14_10
  try clear hcz14_2
  try clear hcz14_3
  try clear hcz14_4
  try clear hcz14_5
  try clear hcz14_6
  try clear hcz14_7
  try clear hcz14_8
  try clear hcz14_9
  try clear hfz11_0
  try clear hfz11_1
  try clear hfz11_10
  try clear hfz11_2
  try clear hfz11_3
  try clear hfz11_4
  try clear hfz11_5
  try clear hfz11_6
  try clear hfz11_7
  try clear hfz11_8
  try clear hfz11_9
  try clear hfz12_0
  try clear hfz12_1
  try clear hfz12_10
  try clear hfz12_2
  try clear hfz12_3
  try clear hfz12_4
  try clear hfz12_5
  try clear hfz12_6
  try clear hfz12_7
  try clear hfz12_8
  try clear hfz12_9
  try clear hfz13_0
  try clear hfz13_1
  try clear hfz13_10
  try clear hfz13_2
  try clear hfz13_3
  try clear hfz13_4
  try clear hfz13_5
  try clear hfz13_6
  try clear hfz13_7
  try clear hfz13_8
  try clear hfz13_9
  try clear hfz14_0
  try clear hfz14_1
  try clear hfz14_10
  try clear hfz14_2
  try clear hfz14_3
  try clear hfz14_4
  try clear hfz14_5
  try clear hfz14_6
  try clear hfz14_7
  try clear hfz14_8
  try clear hfz14_9
  obtain ⟨kq, x4_1, rfl, HA, HJ1, BK175, HB⟩ := hcut
  cases kq with
  | zero => exact absurd HA.out (by simp [crosswayref07_Lay.j0])
  | succ kj1 =>
   have H := HA.out
   clear HA
   simp only [crosswayref07_Lay.j0] at H
   have HC15 := Aside0.mk H
   clear H
   go_upto_region 2 with (fail)
   go_cut [37] (fun v37 wc => ∃ (kq : Nat) (x37_14 : Bool), v37 = .bool x37_14 ∧ Aside0 (crosswayref07_Lay.j1 kq x37_14 a0_0 a0_1 a0_2 a0_3 a0_4 a0_5 a0_6 a0_7 a0_8 a0_9 a0_10 = some (r1, r2)) ∧ Aside0 (kq ≤ kj1) ∧ Aside0 (wc.heap[gb175]? = some (.cells #[.int .i64 a0_0, .int .i64 a0_1, .int .i64 a0_2, .int .i64 a0_3, .bool a0_4, .int .u64 a0_5, .int .u64 a0_6, .bool a0_7, .int .u64 a0_8, .int .u64 a0_9, .string a0_10] 26 (0, 0))) ∧ Aside0 (Below w.heap.size w wc))
   case first =>
    have H := HC15.out
    clear HC15
    by_cases c16 : x4_1 = true
    ·
     subst c16
     have H1 : (if a0_4 = true then (crosswayref07_Lay.j1 kj1 (!a0_7) a0_0 a0_1 a0_2 a0_3 a0_4 a0_5 a0_6 a0_7 a0_8 a0_9 a0_10) else (crosswayref07_Lay.j1 kj1 true a0_0 a0_1 a0_2 a0_3 a0_4 a0_5 a0_6 a0_7 a0_8 a0_9 a0_10)) = some (r1, r2) := by rw [if_pos rfl] at H; exact H
     clear H
     have H := H1
     clear H1
     by_cases c17 : a0_4 = true
     ·
      subst c17
      have H1 : (crosswayref07_Lay.j1 kj1 (!a0_7) a0_0 a0_1 a0_2 a0_3 true a0_5 a0_6 a0_7 a0_8 a0_9 a0_10) = some (r1, r2) := by rw [if_pos rfl] at H; exact H
      clear H
      have H := H1
      clear H1
      have H' := Aside0.mk H
      clear H
      have hcz18_0 : wc.cell? ⟨gb175, 0, none⟩ = some (.int .i64 a0_0) := (blk_cell BK175.out 0).trans rfl
      have hcz18_1 : wc.cell? ⟨gb175, 1, none⟩ = some (.int .i64 a0_1) := (blk_cell BK175.out 1).trans rfl
      have hcz18_2 : wc.cell? ⟨gb175, 2, none⟩ = some (.int .i64 a0_2) := (blk_cell BK175.out 2).trans rfl
      have hcz18_3 : wc.cell? ⟨gb175, 3, none⟩ = some (.int .i64 a0_3) := (blk_cell BK175.out 3).trans rfl
      have hcz18_4 : wc.cell? ⟨gb175, 4, none⟩ = some (.bool true) := (blk_cell BK175.out 4).trans rfl
      have hcz18_5 : wc.cell? ⟨gb175, 5, none⟩ = some (.int .u64 a0_5) := (blk_cell BK175.out 5).trans rfl
      have hcz18_6 : wc.cell? ⟨gb175, 6, none⟩ = some (.int .u64 a0_6) := (blk_cell BK175.out 6).trans rfl
      have hcz18_7 : wc.cell? ⟨gb175, 7, none⟩ = some (.bool a0_7) := (blk_cell BK175.out 7).trans rfl
      have hcz18_8 : wc.cell? ⟨gb175, 8, none⟩ = some (.int .u64 a0_8) := (blk_cell BK175.out 8).trans rfl
      have hcz18_9 : wc.cell? ⟨gb175, 9, none⟩ = some (.int .u64 a0_9) := (blk_cell BK175.out 9).trans rfl
      have hcz18_10 : wc.cell? ⟨gb175, 10, none⟩ = some (.string a0_10) := (blk_cell BK175.out 10).trans rfl
      have hfz18_0 := blk_frozen BK175.out 0
      have hfz18_1 := blk_frozen BK175.out 1
      have hfz18_2 := blk_frozen BK175.out 2
      have hfz18_3 := blk_frozen BK175.out 3
      have hfz18_4 := blk_frozen BK175.out 4
      have hfz18_5 := blk_frozen BK175.out 5
      have hfz18_6 := blk_frozen BK175.out 6
      have hfz18_7 := blk_frozen BK175.out 7
      have hfz18_8 := blk_frozen BK175.out 8
      have hfz18_9 := blk_frozen BK175.out 9
      have hfz18_10 := blk_frozen BK175.out 10
      go_wp2
      go_meet
      case rel => exact ⟨_, (!a0_7), (by first | rfl | (simp; done) | (simp [*]; done)), H', ⟨by have := HJ1.out; first | omega | exact Nat.le_refl _⟩, ⟨by (with_reducible repeat (first | refine blk_drewN ?_ _ | refine blk_drew ?_ | refine blk_alloc ?_ _)); exact BK175.out⟩, ⟨by repeat (first | (with_reducible first | exact HB.out | apply below_alloc | apply pw_below_drewN | apply below_drew1 | refine below_set ?_ GE175.out) | exact HB.out)⟩⟩
     ·
      replace c17 := Bool.eq_false_iff.mpr c17
      subst c17
      have H1 : (crosswayref07_Lay.j1 kj1 true a0_0 a0_1 a0_2 a0_3 false a0_5 a0_6 a0_7 a0_8 a0_9 a0_10) = some (r1, r2) := by rw [if_neg (show ¬ (false = true) by decide)] at H; exact H
      clear H
      have H := H1
      clear H1
      have H' := Aside0.mk H
      clear H
      have hcz19_0 : wc.cell? ⟨gb175, 0, none⟩ = some (.int .i64 a0_0) := (blk_cell BK175.out 0).trans rfl
      have hcz19_1 : wc.cell? ⟨gb175, 1, none⟩ = some (.int .i64 a0_1) := (blk_cell BK175.out 1).trans rfl
      have hcz19_2 : wc.cell? ⟨gb175, 2, none⟩ = some (.int .i64 a0_2) := (blk_cell BK175.out 2).trans rfl
      have hcz19_3 : wc.cell? ⟨gb175, 3, none⟩ = some (.int .i64 a0_3) := (blk_cell BK175.out 3).trans rfl
      have hcz19_4 : wc.cell? ⟨gb175, 4, none⟩ = some (.bool false) := (blk_cell BK175.out 4).trans rfl
      have hcz19_5 : wc.cell? ⟨gb175, 5, none⟩ = some (.int .u64 a0_5) := (blk_cell BK175.out 5).trans rfl
      have hcz19_6 : wc.cell? ⟨gb175, 6, none⟩ = some (.int .u64 a0_6) := (blk_cell BK175.out 6).trans rfl
      have hcz19_7 : wc.cell? ⟨gb175, 7, none⟩ = some (.bool a0_7) := (blk_cell BK175.out 7).trans rfl
      have hcz19_8 : wc.cell? ⟨gb175, 8, none⟩ = some (.int .u64 a0_8) := (blk_cell BK175.out 8).trans rfl
      have hcz19_9 : wc.cell? ⟨gb175, 9, none⟩ = some (.int .u64 a0_9) := (blk_cell BK175.out 9).trans rfl
      have hcz19_10 : wc.cell? ⟨gb175, 10, none⟩ = some (.string a0_10) := (blk_cell BK175.out 10).trans rfl
      have hfz19_0 := blk_frozen BK175.out 0
      have hfz19_1 := blk_frozen BK175.out 1
      have hfz19_2 := blk_frozen BK175.out 2
      have hfz19_3 := blk_frozen BK175.out 3
      have hfz19_4 := blk_frozen BK175.out 4
      have hfz19_5 := blk_frozen BK175.out 5
      have hfz19_6 := blk_frozen BK175.out 6
      have hfz19_7 := blk_frozen BK175.out 7
      have hfz19_8 := blk_frozen BK175.out 8
      have hfz19_9 := blk_frozen BK175.out 9
      have hfz19_10 := blk_frozen BK175.out 10
      go_wp2
      go_meet
      case rel => exact ⟨_, (true), (by first | rfl | (simp; done) | (simp [*]; done)), H', ⟨by have := HJ1.out; first | omega | exact Nat.le_refl _⟩, ⟨by (with_reducible repeat (first | refine blk_drewN ?_ _ | refine blk_drew ?_ | refine blk_alloc ?_ _)); exact BK175.out⟩, ⟨by repeat (first | (with_reducible first | exact HB.out | apply below_alloc | apply pw_below_drewN | apply below_drew1 | refine below_set ?_ GE175.out) | exact HB.out)⟩⟩
    ·
     replace c16 := Bool.eq_false_iff.mpr c16
     subst c16
     have H1 : (crosswayref07_Lay.j1 kj1 true a0_0 a0_1 a0_2 a0_3 a0_4 a0_5 a0_6 a0_7 a0_8 a0_9 a0_10) = some (r1, r2) := by rw [if_neg (show ¬ (false = true) by decide)] at H; exact H
     clear H
     have H := H1
     clear H1
     have H' := Aside0.mk H
     clear H
     go_wp2
     go_meet
     case rel => exact ⟨_, (true), (by first | rfl | (simp; done) | (simp [*]; done)), H', ⟨by have := HJ1.out; first | omega | exact Nat.le_refl _⟩, ⟨by (with_reducible repeat (first | refine blk_drewN ?_ _ | refine blk_drew ?_ | refine blk_alloc ?_ _)); exact BK175.out⟩, ⟨by repeat (first | (with_reducible first | exact HB.out | apply below_alloc | apply pw_below_drewN | apply below_drew1 | refine below_set ?_ GE175.out) | exact HB.out)⟩⟩
   case rest =>
    clear HC15
    try clear c1
    try clear c2
    try clear p2
    try clear c5
    try clear c7
    try clear c9
    try clear c11
    try clear c16
    try clear c17
    try clear hcz11_0
    try clear hcz11_1
    try clear hcz11_10
    try clear hcz11_2
    try clear hcz11_3
    try clear hcz11_4
    try clear hcz11_5
    try clear hcz11_6
    try clear hcz11_7
    try clear hcz11_8
    try clear hcz11_9
    try clear hcz12_0
    try clear hcz12_1
    try clear hcz12_10
    try clear hcz12_2
    try clear hcz12_3
    try clear hcz12_4
    try clear hcz12_5
    try clear hcz12_6
    try clear hcz12_7
    try clear hcz12_8
    try clear hcz12_9
    try clear hcz13_0
    try clear hcz13_1
    try clear hcz13_10
    try clear hcz13_2
    try clear hcz13_3
    try clear hcz13_4
    try clear hcz13_5
    try clear hcz13_6
    try clear hcz13_7
    try clear hcz13_8
    try clear hcz13_9
    try clear hcz14_0
    try clear hcz14_1
    try clear hcz14_10
    try clear hcz14_2
    try clear hcz14_3
    try clear hcz14_4
    try clear hcz14_5
    try clear hcz14_6
    try clear hcz14_7
    try clear hcz14_8
    try clear hcz14_9
    try clear hcz18_0
    try clear hcz18_1
    try clear hcz18_10
    try clear hcz18_2
    try clear hcz18_3
    try clear hcz18_4
    try clear hcz18_5
    try clear hcz18_6
    try clear hcz18_7
    try clear hcz18_8
    try clear hcz18_9
    try clear hcz19_0
    try clear hcz19_1
    try clear hcz19_10
    try clear hcz19_2
    try clear hcz19_3
    try clear hcz19_4
    try clear hcz19_5
    try clear hcz19_6
    try clear hcz19_7
    try clear hcz19_8
    try clear hcz19_9
    try clear hfz11_0
    try clear hfz11_1
    try clear hfz11_10
    try clear hfz11_2
    try clear hfz11_3
    try clear hfz11_4
    try clear hfz11_5
    try clear hfz11_6
    try clear hfz11_7
    try clear hfz11_8
    try clear hfz11_9
    try clear hfz12_0
    try clear hfz12_1
    try clear hfz12_10
    try clear hfz12_2
    try clear hfz12_3
    try clear hfz12_4
    try clear hfz12_5
    try clear hfz12_6
    try clear hfz12_7
    try clear hfz12_8
    try clear hfz12_9
    try clear hfz13_0
    try clear hfz13_1
    try clear hfz13_10
    try clear hfz13_2
    try clear hfz13_3
    try clear hfz13_4
    try clear hfz13_5
    try clear hfz13_6
    try clear hfz13_7
    try clear hfz13_8
    try clear hfz13_9
    try clear hfz14_0
    try clear hfz14_1
    try clear hfz14_10
    try clear hfz14_2
    try clear hfz14_3
    try clear hfz14_4
    try clear hfz14_5
    try clear hfz14_6
    try clear hfz14_7
    try clear hfz14_8
    try clear hfz14_9
    try clear hfz18_0
    try clear hfz18_1
    try clear hfz18_10
    try clear hfz18_2
    try clear hfz18_3
    try clear hfz18_4
    try clear hfz18_5
    try clear hfz18_6
    try clear hfz18_7
    try clear hfz18_8
    try clear hfz18_9
    try clear hfz19_0
    try clear hfz19_1
    try clear hfz19_10
    try clear hfz19_2
    try clear hfz19_3
    try clear hfz19_4
    try clear hfz19_5
    try clear hfz19_6
    try clear hfz19_7
    try clear hfz19_8
    try clear hfz19_9
    try clear p2
    obtain ⟨kq, x37_14, rfl, HA, HJ14, BK175, HB⟩ := hcut
    cases kq with
    | zero => exact absurd HA.out (by simp [crosswayref07_Lay.j1])
    | succ kj14 =>
     have H := HA.out
     clear HA
     simp only [crosswayref07_Lay.j1] at H
     by_cases c20 : x37_14 = true
     ·
      subst c20
      have H1 : (some ((⟨#[]⟩ : ByteArray), 60)) = some (r1, r2) := by rw [if_pos rfl] at H; exact H
      clear H
      have H := H1
      clear H1
      simp only [Option.some.injEq, Prod.mk.injEq] at H
      obtain ⟨rfl, rfl⟩ := H
      go_wp2
      go_ret2
      exact ⟨by first | rfl | (simp [errW_none, errW_some] <;> rfl) | (simp [*, errW_none, errW_some] <;> rfl), by repeat (first | (with_reducible first | exact HB.out | apply below_alloc | apply pw_below_drewN | apply below_drew1 | refine below_set ?_ GE175.out) | exact HB.out)⟩
     ·
      replace c20 := Bool.eq_false_iff.mpr c20
      subst c20
      have H1 : (if (a0_10.size : Int) > 65535 then (some ((⟨#[]⟩ : ByteArray), 62)) else ((crosswayref01_Put.f kj14 ([] : List Int) 4 (IntKind.u64.wrap (wrap64 ((wrap64 (1610612736 + (wrap64 (a0_0 * 1048576)))) + a0_1)))).bind fun t180 => ((crosswayref01_Put.f kj14 t180 2 (a0_10.size : Int)).bind fun t183 => ((crosswayref01_Put.f kj14 t183 1 (IntKind.u64.wrap (a0_2))).bind fun t186 => ((crosswayref01_Put.f kj14 t186 1 (IntKind.u64.wrap (a0_3))).bind fun t189 => ((crosswayref01_Put.f kj14 t189 8 a0_5).bind fun t192 => ((crosswayref01_Put.f kj14 t192 8 a0_6).bind fun t195 => ((crosswayref01_Put.f kj14 t195 8 a0_8).bind fun t198 => ((crosswayref01_Put.f kj14 t198 8 a0_9).bind fun t201 => (if (strOfNums t201).size + a0_10.size ≤ 9223372036854775807 then (some ((strOfNums t201) ++ a0_10, 0)) else (none))))))))))) = some (r1, r2) := by rw [if_neg (show ¬ (false = true) by decide)] at H; exact H
      clear H
      have H := H1
      clear H1
      by_cases c21 : (a0_10.size : Int) > 65535
      ·
       rw [if_pos c21] at H
       have c21b0 : decide (65535 < (a0_10.size : Int)) = true := decide_eq_true c21
       have c21b1 : decide (65535 < a0_10.size) = true := decide_eq_true (by omega)
       clear c21
       simp only [Option.some.injEq, Prod.mk.injEq] at H
       obtain ⟨rfl, rfl⟩ := H
       have hcz22_0 : wc.cell? ⟨gb175, 0, none⟩ = some (.int .i64 a0_0) := (blk_cell BK175.out 0).trans rfl
       have hcz22_1 : wc.cell? ⟨gb175, 1, none⟩ = some (.int .i64 a0_1) := (blk_cell BK175.out 1).trans rfl
       have hcz22_2 : wc.cell? ⟨gb175, 2, none⟩ = some (.int .i64 a0_2) := (blk_cell BK175.out 2).trans rfl
       have hcz22_3 : wc.cell? ⟨gb175, 3, none⟩ = some (.int .i64 a0_3) := (blk_cell BK175.out 3).trans rfl
       have hcz22_4 : wc.cell? ⟨gb175, 4, none⟩ = some (.bool a0_4) := (blk_cell BK175.out 4).trans rfl
       have hcz22_5 : wc.cell? ⟨gb175, 5, none⟩ = some (.int .u64 a0_5) := (blk_cell BK175.out 5).trans rfl
       have hcz22_6 : wc.cell? ⟨gb175, 6, none⟩ = some (.int .u64 a0_6) := (blk_cell BK175.out 6).trans rfl
       have hcz22_7 : wc.cell? ⟨gb175, 7, none⟩ = some (.bool a0_7) := (blk_cell BK175.out 7).trans rfl
       have hcz22_8 : wc.cell? ⟨gb175, 8, none⟩ = some (.int .u64 a0_8) := (blk_cell BK175.out 8).trans rfl
       have hcz22_9 : wc.cell? ⟨gb175, 9, none⟩ = some (.int .u64 a0_9) := (blk_cell BK175.out 9).trans rfl
       have hcz22_10 : wc.cell? ⟨gb175, 10, none⟩ = some (.string a0_10) := (blk_cell BK175.out 10).trans rfl
       have hfz22_0 := blk_frozen BK175.out 0
       have hfz22_1 := blk_frozen BK175.out 1
       have hfz22_2 := blk_frozen BK175.out 2
       have hfz22_3 := blk_frozen BK175.out 3
       have hfz22_4 := blk_frozen BK175.out 4
       have hfz22_5 := blk_frozen BK175.out 5
       have hfz22_6 := blk_frozen BK175.out 6
       have hfz22_7 := blk_frozen BK175.out 7
       have hfz22_8 := blk_frozen BK175.out 8
       have hfz22_9 := blk_frozen BK175.out 9
       have hfz22_10 := blk_frozen BK175.out 10
       go_wp2
       go_ret2
       exact ⟨by first | rfl | (simp [errW_none, errW_some] <;> rfl) | (simp [*, errW_none, errW_some] <;> rfl), by repeat (first | (with_reducible first | exact HB.out | apply below_alloc | apply pw_below_drewN | apply below_drew1 | refine below_set ?_ GE175.out) | exact HB.out)⟩
      ·
       rw [if_neg c21] at H
       have c21b0 : decide (65535 < (a0_10.size : Int)) = false := decide_eq_false c21
       have c21b1 : decide (65535 < a0_10.size) = false := decide_eq_false (by omega)
       clear c21
       replace H := Option.bind_eq_some_iff.mp H
       obtain ⟨t180, A230, H⟩ := H
       replace H : ((crosswayref01_Put.f kj14 t180 2 (a0_10.size : Int)).bind fun t183 => ((crosswayref01_Put.f kj14 t183 1 (IntKind.u64.wrap (a0_2))).bind fun t186 => ((crosswayref01_Put.f kj14 t186 1 (IntKind.u64.wrap (a0_3))).bind fun t189 => ((crosswayref01_Put.f kj14 t189 8 a0_5).bind fun t192 => ((crosswayref01_Put.f kj14 t192 8 a0_6).bind fun t195 => ((crosswayref01_Put.f kj14 t195 8 a0_8).bind fun t198 => ((crosswayref01_Put.f kj14 t198 8 a0_9).bind fun t201 => (if (strOfNums t201).size + a0_10.size ≤ 9223372036854775807 then (some ((strOfNums t201) ++ a0_10, 0)) else (none))))))))) = some (r1, r2) := H
       have A23 := Aside0.mk A230
       clear A230
       replace H := Option.bind_eq_some_iff.mp H
       obtain ⟨t183, A240, H⟩ := H
       replace H : ((crosswayref01_Put.f kj14 t183 1 (IntKind.u64.wrap (a0_2))).bind fun t186 => ((crosswayref01_Put.f kj14 t186 1 (IntKind.u64.wrap (a0_3))).bind fun t189 => ((crosswayref01_Put.f kj14 t189 8 a0_5).bind fun t192 => ((crosswayref01_Put.f kj14 t192 8 a0_6).bind fun t195 => ((crosswayref01_Put.f kj14 t195 8 a0_8).bind fun t198 => ((crosswayref01_Put.f kj14 t198 8 a0_9).bind fun t201 => (if (strOfNums t201).size + a0_10.size ≤ 9223372036854775807 then (some ((strOfNums t201) ++ a0_10, 0)) else (none)))))))) = some (r1, r2) := H
       have A24 := Aside0.mk A240
       clear A240
       replace H := Option.bind_eq_some_iff.mp H
       obtain ⟨t186, A250, H⟩ := H
       replace H : ((crosswayref01_Put.f kj14 t186 1 (IntKind.u64.wrap (a0_3))).bind fun t189 => ((crosswayref01_Put.f kj14 t189 8 a0_5).bind fun t192 => ((crosswayref01_Put.f kj14 t192 8 a0_6).bind fun t195 => ((crosswayref01_Put.f kj14 t195 8 a0_8).bind fun t198 => ((crosswayref01_Put.f kj14 t198 8 a0_9).bind fun t201 => (if (strOfNums t201).size + a0_10.size ≤ 9223372036854775807 then (some ((strOfNums t201) ++ a0_10, 0)) else (none))))))) = some (r1, r2) := H
       have A25 := Aside0.mk A250
       clear A250
       replace H := Option.bind_eq_some_iff.mp H
       obtain ⟨t189, A260, H⟩ := H
       replace H : ((crosswayref01_Put.f kj14 t189 8 a0_5).bind fun t192 => ((crosswayref01_Put.f kj14 t192 8 a0_6).bind fun t195 => ((crosswayref01_Put.f kj14 t195 8 a0_8).bind fun t198 => ((crosswayref01_Put.f kj14 t198 8 a0_9).bind fun t201 => (if (strOfNums t201).size + a0_10.size ≤ 9223372036854775807 then (some ((strOfNums t201) ++ a0_10, 0)) else (none)))))) = some (r1, r2) := H
       have A26 := Aside0.mk A260
       clear A260
       replace H := Option.bind_eq_some_iff.mp H
       obtain ⟨t192, A270, H⟩ := H
       replace H : ((crosswayref01_Put.f kj14 t192 8 a0_6).bind fun t195 => ((crosswayref01_Put.f kj14 t195 8 a0_8).bind fun t198 => ((crosswayref01_Put.f kj14 t198 8 a0_9).bind fun t201 => (if (strOfNums t201).size + a0_10.size ≤ 9223372036854775807 then (some ((strOfNums t201) ++ a0_10, 0)) else (none))))) = some (r1, r2) := H
       have A27 := Aside0.mk A270
       clear A270
       replace H := Option.bind_eq_some_iff.mp H
       obtain ⟨t195, A280, H⟩ := H
       replace H : ((crosswayref01_Put.f kj14 t195 8 a0_8).bind fun t198 => ((crosswayref01_Put.f kj14 t198 8 a0_9).bind fun t201 => (if (strOfNums t201).size + a0_10.size ≤ 9223372036854775807 then (some ((strOfNums t201) ++ a0_10, 0)) else (none)))) = some (r1, r2) := H
       have A28 := Aside0.mk A280
       clear A280
       replace H := Option.bind_eq_some_iff.mp H
       obtain ⟨t198, A290, H⟩ := H
       replace H : ((crosswayref01_Put.f kj14 t198 8 a0_9).bind fun t201 => (if (strOfNums t201).size + a0_10.size ≤ 9223372036854775807 then (some ((strOfNums t201) ++ a0_10, 0)) else (none))) = some (r1, r2) := H
       have A29 := Aside0.mk A290
       clear A290
       replace H := Option.bind_eq_some_iff.mp H
       obtain ⟨t201, A300, H⟩ := H
       replace H : (if (strOfNums t201).size + a0_10.size ≤ 9223372036854775807 then (some ((strOfNums t201) ++ a0_10, 0)) else (none)) = some (r1, r2) := H
       have A30 := Aside0.mk A300
       clear A300
       by_cases c31 : (strOfNums t201).size + a0_10.size ≤ 9223372036854775807
       ·
        rw [if_pos c31] at H
        have c31b0 := eq_true c31
        have c31b1 : decide ((strOfNums t201).size + a0_10.size ≤ 9223372036854775807) = true := decide_eq_true c31
        try have c31b2 : (9223372036854775807 < (strOfNums t201).size + a0_10.size) = False := eq_false (Nat.not_lt.2 c31)
        simp only [Option.some.injEq, Prod.mk.injEq] at H
        obtain ⟨rfl, rfl⟩ := H
        have hcz32_0 : wc.cell? ⟨gb175, 0, none⟩ = some (.int .i64 a0_0) := (blk_cell BK175.out 0).trans rfl
        have hcz32_1 : wc.cell? ⟨gb175, 1, none⟩ = some (.int .i64 a0_1) := (blk_cell BK175.out 1).trans rfl
        have hcz32_2 : wc.cell? ⟨gb175, 2, none⟩ = some (.int .i64 a0_2) := (blk_cell BK175.out 2).trans rfl
        have hcz32_3 : wc.cell? ⟨gb175, 3, none⟩ = some (.int .i64 a0_3) := (blk_cell BK175.out 3).trans rfl
        have hcz32_4 : wc.cell? ⟨gb175, 4, none⟩ = some (.bool a0_4) := (blk_cell BK175.out 4).trans rfl
        have hcz32_5 : wc.cell? ⟨gb175, 5, none⟩ = some (.int .u64 a0_5) := (blk_cell BK175.out 5).trans rfl
        have hcz32_6 : wc.cell? ⟨gb175, 6, none⟩ = some (.int .u64 a0_6) := (blk_cell BK175.out 6).trans rfl
        have hcz32_7 : wc.cell? ⟨gb175, 7, none⟩ = some (.bool a0_7) := (blk_cell BK175.out 7).trans rfl
        have hcz32_8 : wc.cell? ⟨gb175, 8, none⟩ = some (.int .u64 a0_8) := (blk_cell BK175.out 8).trans rfl
        have hcz32_9 : wc.cell? ⟨gb175, 9, none⟩ = some (.int .u64 a0_9) := (blk_cell BK175.out 9).trans rfl
        have hcz32_10 : wc.cell? ⟨gb175, 10, none⟩ = some (.string a0_10) := (blk_cell BK175.out 10).trans rfl
        have hfz32_0 := blk_frozen BK175.out 0
        have hfz32_1 := blk_frozen BK175.out 1
        have hfz32_2 := blk_frozen BK175.out 2
        have hfz32_3 := blk_frozen BK175.out 3
        have hfz32_4 := blk_frozen BK175.out 4
        have hfz32_5 := blk_frozen BK175.out 5
        have hfz32_6 := blk_frozen BK175.out 6
        have hfz32_7 := blk_frozen BK175.out 7
        have hfz32_8 := blk_frozen BK175.out 8
        have hfz32_9 := blk_frozen BK175.out 9
        have hfz32_10 := blk_frozen BK175.out 10
        go_wp2_with (first | ((with_reducible refine gate_callee (f := 25) rfl ?_); refine goesL_ (some 50) rfl rfl Try.func25 (by kernel_rfl) rfl #[.slice none 0 0, .int .i64 4, .int .u64 (IntKind.u64.wrap (wrap64 ((wrap64 (1610612736 + (wrap64 (a0_0 * 1048576)))) + a0_1)))] rfl (by (try simp only [List.map_toArray, List.map_cons, List.map_nil]); first | done | rfl | (simp only [List.length_drop, List.length_take]; rfl)) ?_; (refine (crosswayref01_Put.calls kj14 _ _ ([] : List Int) 4 (IntKind.u64.wrap (wrap64 ((wrap64 (1610612736 + (wrap64 (a0_0 * 1048576)))) + a0_1))) t180 _ ?side1 ?side2 A23.out).mono ?_); (case side1 => exact Kd.C_nil _ _); (case side2 => exact Nat.le_refl _); rintro e w33 ⟨v181, rfl, ho0, hb⟩; refine ⟨_, rfl, ?_⟩; have n0_ := Aside0.mk (Kd.R_lower ho0 (below_size (by repeat (first | (with_reducible first | exact HB.out | apply below_alloc | apply pw_below_drewN | apply below_drew1 | refine below_set ?_ GE175.out) | exact HB.out)))); have n1_ := Aside0.mk (blk_below (g := gb175) (o := .cells #[.int .i64 a0_0, .int .i64 a0_1, .int .i64 a0_2, .int .i64 a0_3, .bool a0_4, .int .u64 a0_5, .int .u64 a0_6, .bool a0_7, .int .u64 a0_8, .int .u64 a0_9, .string a0_10] 26 (0, 0)) (by (with_reducible repeat (first | refine blk_drewN ?_ _ | refine blk_drew ?_ | refine blk_alloc ?_ _)); exact BK175.out) hb); have n2_ := Aside0.mk (below_step (by repeat (first | (with_reducible first | exact HB.out | apply below_alloc | apply pw_below_drewN | apply below_drew1 | refine below_set ?_ GE175.out) | exact HB.out)) hb); clear BK175; clear HB; have HO182 := n0_; have BK175 := n1_; have HB := n2_; clear n0_ n1_ n2_; (try clear hb); (try clear hb2); (try clear hk); (try clear hi); (try clear ho0); have hcz34_0 : w33.cell? ⟨gb175, 0, none⟩ = some (.int .i64 a0_0) := (blk_cell BK175.out 0).trans rfl; have hcz34_1 : w33.cell? ⟨gb175, 1, none⟩ = some (.int .i64 a0_1) := (blk_cell BK175.out 1).trans rfl; have hcz34_2 : w33.cell? ⟨gb175, 2, none⟩ = some (.int .i64 a0_2) := (blk_cell BK175.out 2).trans rfl; have hcz34_3 : w33.cell? ⟨gb175, 3, none⟩ = some (.int .i64 a0_3) := (blk_cell BK175.out 3).trans rfl; have hcz34_4 : w33.cell? ⟨gb175, 4, none⟩ = some (.bool a0_4) := (blk_cell BK175.out 4).trans rfl; have hcz34_5 : w33.cell? ⟨gb175, 5, none⟩ = some (.int .u64 a0_5) := (blk_cell BK175.out 5).trans rfl; have hcz34_6 : w33.cell? ⟨gb175, 6, none⟩ = some (.int .u64 a0_6) := (blk_cell BK175.out 6).trans rfl; have hcz34_7 : w33.cell? ⟨gb175, 7, none⟩ = some (.bool a0_7) := (blk_cell BK175.out 7).trans rfl; have hcz34_8 : w33.cell? ⟨gb175, 8, none⟩ = some (.int .u64 a0_8) := (blk_cell BK175.out 8).trans rfl; have hcz34_9 : w33.cell? ⟨gb175, 9, none⟩ = some (.int .u64 a0_9) := (blk_cell BK175.out 9).trans rfl; have hcz34_10 : w33.cell? ⟨gb175, 10, none⟩ = some (.string a0_10) := (blk_cell BK175.out 10).trans rfl; have hfz34_0 := blk_frozen BK175.out 0; have hfz34_1 := blk_frozen BK175.out 1; have hfz34_2 := blk_frozen BK175.out 2; have hfz34_3 := blk_frozen BK175.out 3; have hfz34_4 := blk_frozen BK175.out 4; have hfz34_5 := blk_frozen BK175.out 5; have hfz34_6 := blk_frozen BK175.out 6; have hfz34_7 := blk_frozen BK175.out 7; have hfz34_8 := blk_frozen BK175.out 8; have hfz34_9 := blk_frozen BK175.out 9; have hfz34_10 := blk_frozen BK175.out 10; obtain ⟨Ao35, co35, eo35⟩ := Kd.R_slice HO182.out; subst eo35) | ((with_reducible refine gate_callee (f := 25) rfl ?_); refine goesL_ (some 56) rfl rfl Try.func25 (by kernel_rfl) rfl #[.slice Ao35 t180.length co35, .int .i64 2, .int .u64 (a0_10.size : Int)] rfl (by (try simp only [List.map_toArray, List.map_cons, List.map_nil]); first | done | rfl | (simp only [List.length_drop, List.length_take]; rfl)) ?_; (with_reducible refine (crosswayref01_Put.calls kj14 _ _ t180 2 (a0_10.size : Int) t183 _ ?side1 ?side2 A24.out).mono ?_); (case side1 => repeat (first | exact (Kd.R_reads' HO182.out).2.2 | (with_reducible refine Kd.C_alloc ?_ _) | (with_reducible refine Kd.C_drewN ?_ _) | (with_reducible refine Kd.C_drew ?_))); (case side2 => exact (Kd.R_reads' HO182.out).2.1); rintro e w36 ⟨v184, rfl, ho0, hb⟩; refine ⟨_, rfl, ?_⟩; have n0_ := Aside0.mk (Kd.R_elder' (by (with_reducible repeat (first | apply Kd.R_alloc | apply Kd.R_drewN | apply Kd.R_drew)); exact HO182.out) (Kd.R_base ho0) hb); have n1_ := Aside0.mk (Kd.R_lower (Kd.R_new' ho0 (Kd.R_lt (by (with_reducible repeat (first | apply Kd.R_alloc | apply Kd.R_drewN | apply Kd.R_drew)); exact HO182.out))) (below_size (by repeat (first | (with_reducible first | exact HB.out | apply below_alloc | apply pw_below_drewN | apply below_drew1 | refine below_set ?_ GE175.out) | exact HB.out)))); have n2_ := Aside0.mk (blk_below (g := gb175) (o := .cells #[.int .i64 a0_0, .int .i64 a0_1, .int .i64 a0_2, .int .i64 a0_3, .bool a0_4, .int .u64 a0_5, .int .u64 a0_6, .bool a0_7, .int .u64 a0_8, .int .u64 a0_9, .string a0_10] 26 (0, 0)) (by (with_reducible repeat (first | refine blk_drewN ?_ _ | refine blk_drew ?_ | refine blk_alloc ?_ _)); exact BK175.out) hb); have n3_ := Aside0.mk (below_step (by repeat (first | (with_reducible first | exact HB.out | apply below_alloc | apply pw_below_drewN | apply below_drew1 | refine below_set ?_ GE175.out) | exact HB.out)) hb); clear HO182; clear BK175; clear HB; have HO182 := n0_; have HO185 := n1_; have BK175 := n2_; have HB := n3_; clear n0_ n1_ n2_ n3_; (try clear hb); (try clear hb2); (try clear hk); (try clear hi); (try clear ho0); have hcz37_0 : w36.cell? ⟨gb175, 0, none⟩ = some (.int .i64 a0_0) := (blk_cell BK175.out 0).trans rfl; have hcz37_1 : w36.cell? ⟨gb175, 1, none⟩ = some (.int .i64 a0_1) := (blk_cell BK175.out 1).trans rfl; have hcz37_2 : w36.cell? ⟨gb175, 2, none⟩ = some (.int .i64 a0_2) := (blk_cell BK175.out 2).trans rfl; have hcz37_3 : w36.cell? ⟨gb175, 3, none⟩ = some (.int .i64 a0_3) := (blk_cell BK175.out 3).trans rfl; have hcz37_4 : w36.cell? ⟨gb175, 4, none⟩ = some (.bool a0_4) := (blk_cell BK175.out 4).trans rfl; have hcz37_5 : w36.cell? ⟨gb175, 5, none⟩ = some (.int .u64 a0_5) := (blk_cell BK175.out 5).trans rfl; have hcz37_6 : w36.cell? ⟨gb175, 6, none⟩ = some (.int .u64 a0_6) := (blk_cell BK175.out 6).trans rfl; have hcz37_7 : w36.cell? ⟨gb175, 7, none⟩ = some (.bool a0_7) := (blk_cell BK175.out 7).trans rfl; have hcz37_8 : w36.cell? ⟨gb175, 8, none⟩ = some (.int .u64 a0_8) := (blk_cell BK175.out 8).trans rfl; have hcz37_9 : w36.cell? ⟨gb175, 9, none⟩ = some (.int .u64 a0_9) := (blk_cell BK175.out 9).trans rfl; have hcz37_10 : w36.cell? ⟨gb175, 10, none⟩ = some (.string a0_10) := (blk_cell BK175.out 10).trans rfl; have hfz37_0 := blk_frozen BK175.out 0; have hfz37_1 := blk_frozen BK175.out 1; have hfz37_2 := blk_frozen BK175.out 2; have hfz37_3 := blk_frozen BK175.out 3; have hfz37_4 := blk_frozen BK175.out 4; have hfz37_5 := blk_frozen BK175.out 5; have hfz37_6 := blk_frozen BK175.out 6; have hfz37_7 := blk_frozen BK175.out 7; have hfz37_8 := blk_frozen BK175.out 8; have hfz37_9 := blk_frozen BK175.out 9; have hfz37_10 := blk_frozen BK175.out 10; obtain ⟨Ao38, co38, eo38⟩ := Kd.R_slice HO185.out; subst eo38) | ((with_reducible refine gate_callee (f := 25) rfl ?_); refine goesL_ (some 61) rfl rfl Try.func25 (by kernel_rfl) rfl #[.slice Ao38 t183.length co38, .int .i64 1, .int .u64 (IntKind.u64.wrap (a0_2))] rfl (by (try simp only [List.map_toArray, List.map_cons, List.map_nil]); first | done | rfl | (simp only [List.length_drop, List.length_take]; rfl)) ?_; (with_reducible refine (crosswayref01_Put.calls kj14 _ _ t183 1 (IntKind.u64.wrap (a0_2)) t186 _ ?side1 ?side2 A25.out).mono ?_); (case side1 => repeat (first | exact (Kd.R_reads' HO185.out).2.2 | (with_reducible refine Kd.C_alloc ?_ _) | (with_reducible refine Kd.C_drewN ?_ _) | (with_reducible refine Kd.C_drew ?_))); (case side2 => exact (Kd.R_reads' HO185.out).2.1); rintro e w39 ⟨v187, rfl, ho0, hb⟩; refine ⟨_, rfl, ?_⟩; have n0_ := Aside0.mk (Kd.R_elder' (by (with_reducible repeat (first | apply Kd.R_alloc | apply Kd.R_drewN | apply Kd.R_drew)); exact HO182.out) (Kd.R_base ho0) hb); have n1_ := Aside0.mk (Kd.R_elder' (by (with_reducible repeat (first | apply Kd.R_alloc | apply Kd.R_drewN | apply Kd.R_drew)); exact HO185.out) (Kd.R_base ho0) hb); have n2_ := Aside0.mk (Kd.R_lower (Kd.R_new' (Kd.R_new' ho0 (Kd.R_lt (by (with_reducible repeat (first | apply Kd.R_alloc | apply Kd.R_drewN | apply Kd.R_drew)); exact HO182.out))) (Kd.R_lt (by (with_reducible repeat (first | apply Kd.R_alloc | apply Kd.R_drewN | apply Kd.R_drew)); exact HO185.out))) (below_size (by repeat (first | (with_reducible first | exact HB.out | apply below_alloc | apply pw_below_drewN | apply below_drew1 | refine below_set ?_ GE175.out) | exact HB.out)))); have n3_ := Aside0.mk (blk_below (g := gb175) (o := .cells #[.int .i64 a0_0, .int .i64 a0_1, .int .i64 a0_2, .int .i64 a0_3, .bool a0_4, .int .u64 a0_5, .int .u64 a0_6, .bool a0_7, .int .u64 a0_8, .int .u64 a0_9, .string a0_10] 26 (0, 0)) (by (with_reducible repeat (first | refine blk_drewN ?_ _ | refine blk_drew ?_ | refine blk_alloc ?_ _)); exact BK175.out) hb); have n4_ := Aside0.mk (below_step (by repeat (first | (with_reducible first | exact HB.out | apply below_alloc | apply pw_below_drewN | apply below_drew1 | refine below_set ?_ GE175.out) | exact HB.out)) hb); clear HO182; clear HO185; clear BK175; clear HB; have HO182 := n0_; have HO185 := n1_; have HO188 := n2_; have BK175 := n3_; have HB := n4_; clear n0_ n1_ n2_ n3_ n4_; (try clear hb); (try clear hb2); (try clear hk); (try clear hi); (try clear ho0); have hcz40_0 : w39.cell? ⟨gb175, 0, none⟩ = some (.int .i64 a0_0) := (blk_cell BK175.out 0).trans rfl; have hcz40_1 : w39.cell? ⟨gb175, 1, none⟩ = some (.int .i64 a0_1) := (blk_cell BK175.out 1).trans rfl; have hcz40_2 : w39.cell? ⟨gb175, 2, none⟩ = some (.int .i64 a0_2) := (blk_cell BK175.out 2).trans rfl; have hcz40_3 : w39.cell? ⟨gb175, 3, none⟩ = some (.int .i64 a0_3) := (blk_cell BK175.out 3).trans rfl; have hcz40_4 : w39.cell? ⟨gb175, 4, none⟩ = some (.bool a0_4) := (blk_cell BK175.out 4).trans rfl; have hcz40_5 : w39.cell? ⟨gb175, 5, none⟩ = some (.int .u64 a0_5) := (blk_cell BK175.out 5).trans rfl; have hcz40_6 : w39.cell? ⟨gb175, 6, none⟩ = some (.int .u64 a0_6) := (blk_cell BK175.out 6).trans rfl; have hcz40_7 : w39.cell? ⟨gb175, 7, none⟩ = some (.bool a0_7) := (blk_cell BK175.out 7).trans rfl; have hcz40_8 : w39.cell? ⟨gb175, 8, none⟩ = some (.int .u64 a0_8) := (blk_cell BK175.out 8).trans rfl; have hcz40_9 : w39.cell? ⟨gb175, 9, none⟩ = some (.int .u64 a0_9) := (blk_cell BK175.out 9).trans rfl; have hcz40_10 : w39.cell? ⟨gb175, 10, none⟩ = some (.string a0_10) := (blk_cell BK175.out 10).trans rfl; have hfz40_0 := blk_frozen BK175.out 0; have hfz40_1 := blk_frozen BK175.out 1; have hfz40_2 := blk_frozen BK175.out 2; have hfz40_3 := blk_frozen BK175.out 3; have hfz40_4 := blk_frozen BK175.out 4; have hfz40_5 := blk_frozen BK175.out 5; have hfz40_6 := blk_frozen BK175.out 6; have hfz40_7 := blk_frozen BK175.out 7; have hfz40_8 := blk_frozen BK175.out 8; have hfz40_9 := blk_frozen BK175.out 9; have hfz40_10 := blk_frozen BK175.out 10; obtain ⟨Ao41, co41, eo41⟩ := Kd.R_slice HO188.out; subst eo41) | ((with_reducible refine gate_callee (f := 25) rfl ?_); refine goesL_ (some 66) rfl rfl Try.func25 (by kernel_rfl) rfl #[.slice Ao41 t186.length co41, .int .i64 1, .int .u64 (IntKind.u64.wrap (a0_3))] rfl (by (try simp only [List.map_toArray, List.map_cons, List.map_nil]); first | done | rfl | (simp only [List.length_drop, List.length_take]; rfl)) ?_; (with_reducible refine (crosswayref01_Put.calls kj14 _ _ t186 1 (IntKind.u64.wrap (a0_3)) t189 _ ?side1 ?side2 A26.out).mono ?_); (case side1 => repeat (first | exact (Kd.R_reads' HO188.out).2.2 | (with_reducible refine Kd.C_alloc ?_ _) | (with_reducible refine Kd.C_drewN ?_ _) | (with_reducible refine Kd.C_drew ?_))); (case side2 => exact (Kd.R_reads' HO188.out).2.1); rintro e w42 ⟨v190, rfl, ho0, hb⟩; refine ⟨_, rfl, ?_⟩; have n0_ := Aside0.mk (Kd.R_elder' (by (with_reducible repeat (first | apply Kd.R_alloc | apply Kd.R_drewN | apply Kd.R_drew)); exact HO182.out) (Kd.R_base ho0) hb); have n1_ := Aside0.mk (Kd.R_elder' (by (with_reducible repeat (first | apply Kd.R_alloc | apply Kd.R_drewN | apply Kd.R_drew)); exact HO185.out) (Kd.R_base ho0) hb); have n2_ := Aside0.mk (Kd.R_elder' (by (with_reducible repeat (first | apply Kd.R_alloc | apply Kd.R_drewN | apply Kd.R_drew)); exact HO188.out) (Kd.R_base ho0) hb); have n3_ := Aside0.mk (Kd.R_lower (Kd.R_new' (Kd.R_new' (Kd.R_new' ho0 (Kd.R_lt (by (with_reducible repeat (first | apply Kd.R_alloc | apply Kd.R_drewN | apply Kd.R_drew)); exact HO182.out))) (Kd.R_lt (by (with_reducible repeat (first | apply Kd.R_alloc | apply Kd.R_drewN | apply Kd.R_drew)); exact HO185.out))) (Kd.R_lt (by (with_reducible repeat (first | apply Kd.R_alloc | apply Kd.R_drewN | apply Kd.R_drew)); exact HO188.out))) (below_size (by repeat (first | (with_reducible first | exact HB.out | apply below_alloc | apply pw_below_drewN | apply below_drew1 | refine below_set ?_ GE175.out) | exact HB.out)))); have n4_ := Aside0.mk (blk_below (g := gb175) (o := .cells #[.int .i64 a0_0, .int .i64 a0_1, .int .i64 a0_2, .int .i64 a0_3, .bool a0_4, .int .u64 a0_5, .int .u64 a0_6, .bool a0_7, .int .u64 a0_8, .int .u64 a0_9, .string a0_10] 26 (0, 0)) (by (with_reducible repeat (first | refine blk_drewN ?_ _ | refine blk_drew ?_ | refine blk_alloc ?_ _)); exact BK175.out) hb); have n5_ := Aside0.mk (below_step (by repeat (first | (with_reducible first | exact HB.out | apply below_alloc | apply pw_below_drewN | apply below_drew1 | refine below_set ?_ GE175.out) | exact HB.out)) hb); clear HO182; clear HO185; clear HO188; clear BK175; clear HB; have HO182 := n0_; have HO185 := n1_; have HO188 := n2_; have HO191 := n3_; have BK175 := n4_; have HB := n5_; clear n0_ n1_ n2_ n3_ n4_ n5_; (try clear hb); (try clear hb2); (try clear hk); (try clear hi); (try clear ho0); have hcz43_0 : w42.cell? ⟨gb175, 0, none⟩ = some (.int .i64 a0_0) := (blk_cell BK175.out 0).trans rfl; have hcz43_1 : w42.cell? ⟨gb175, 1, none⟩ = some (.int .i64 a0_1) := (blk_cell BK175.out 1).trans rfl; have hcz43_2 : w42.cell? ⟨gb175, 2, none⟩ = some (.int .i64 a0_2) := (blk_cell BK175.out 2).trans rfl; have hcz43_3 : w42.cell? ⟨gb175, 3, none⟩ = some (.int .i64 a0_3) := (blk_cell BK175.out 3).trans rfl; have hcz43_4 : w42.cell? ⟨gb175, 4, none⟩ = some (.bool a0_4) := (blk_cell BK175.out 4).trans rfl; have hcz43_5 : w42.cell? ⟨gb175, 5, none⟩ = some (.int .u64 a0_5) := (blk_cell BK175.out 5).trans rfl; have hcz43_6 : w42.cell? ⟨gb175, 6, none⟩ = some (.int .u64 a0_6) := (blk_cell BK175.out 6).trans rfl; have hcz43_7 : w42.cell? ⟨gb175, 7, none⟩ = some (.bool a0_7) := (blk_cell BK175.out 7).trans rfl; have hcz43_8 : w42.cell? ⟨gb175, 8, none⟩ = some (.int .u64 a0_8) := (blk_cell BK175.out 8).trans rfl; have hcz43_9 : w42.cell? ⟨gb175, 9, none⟩ = some (.int .u64 a0_9) := (blk_cell BK175.out 9).trans rfl; have hcz43_10 : w42.cell? ⟨gb175, 10, none⟩ = some (.string a0_10) := (blk_cell BK175.out 10).trans rfl; have hfz43_0 := blk_frozen BK175.out 0; have hfz43_1 := blk_frozen BK175.out 1; have hfz43_2 := blk_frozen BK175.out 2; have hfz43_3 := blk_frozen BK175.out 3; have hfz43_4 := blk_frozen BK175.out 4; have hfz43_5 := blk_frozen BK175.out 5; have hfz43_6 := blk_frozen BK175.out 6; have hfz43_7 := blk_frozen BK175.out 7; have hfz43_8 := blk_frozen BK175.out 8; have hfz43_9 := blk_frozen BK175.out 9; have hfz43_10 := blk_frozen BK175.out 10; obtain ⟨Ao44, co44, eo44⟩ := Kd.R_slice HO191.out; subst eo44) | ((with_reducible refine gate_callee (f := 25) rfl ?_); refine goesL_ (some 71) rfl rfl Try.func25 (by kernel_rfl) rfl #[.slice Ao44 t189.length co44, .int .i64 8, .int .u64 a0_5] rfl (by (try simp only [List.map_toArray, List.map_cons, List.map_nil]); first | done | rfl | (simp only [List.length_drop, List.length_take]; rfl)) ?_; (with_reducible refine (crosswayref01_Put.calls kj14 _ _ t189 8 a0_5 t192 _ ?side1 ?side2 A27.out).mono ?_); (case side1 => repeat (first | exact (Kd.R_reads' HO191.out).2.2 | (with_reducible refine Kd.C_alloc ?_ _) | (with_reducible refine Kd.C_drewN ?_ _) | (with_reducible refine Kd.C_drew ?_))); (case side2 => exact (Kd.R_reads' HO191.out).2.1); rintro e w45 ⟨v193, rfl, ho0, hb⟩; refine ⟨_, rfl, ?_⟩; have n0_ := Aside0.mk (Kd.R_elder' (by (with_reducible repeat (first | apply Kd.R_alloc | apply Kd.R_drewN | apply Kd.R_drew)); exact HO182.out) (Kd.R_base ho0) hb); have n1_ := Aside0.mk (Kd.R_elder' (by (with_reducible repeat (first | apply Kd.R_alloc | apply Kd.R_drewN | apply Kd.R_drew)); exact HO185.out) (Kd.R_base ho0) hb); have n2_ := Aside0.mk (Kd.R_elder' (by (with_reducible repeat (first | apply Kd.R_alloc | apply Kd.R_drewN | apply Kd.R_drew)); exact HO188.out) (Kd.R_base ho0) hb); have n3_ := Aside0.mk (Kd.R_elder' (by (with_reducible repeat (first | apply Kd.R_alloc | apply Kd.R_drewN | apply Kd.R_drew)); exact HO191.out) (Kd.R_base ho0) hb); have n4_ := Aside0.mk (Kd.R_lower (Kd.R_new' (Kd.R_new' (Kd.R_new' (Kd.R_new' ho0 (Kd.R_lt (by (with_reducible repeat (first | apply Kd.R_alloc | apply Kd.R_drewN | apply Kd.R_drew)); exact HO182.out))) (Kd.R_lt (by (with_reducible repeat (first | apply Kd.R_alloc | apply Kd.R_drewN | apply Kd.R_drew)); exact HO185.out))) (Kd.R_lt (by (with_reducible repeat (first | apply Kd.R_alloc | apply Kd.R_drewN | apply Kd.R_drew)); exact HO188.out))) (Kd.R_lt (by (with_reducible repeat (first | apply Kd.R_alloc | apply Kd.R_drewN | apply Kd.R_drew)); exact HO191.out))) (below_size (by repeat (first | (with_reducible first | exact HB.out | apply below_alloc | apply pw_below_drewN | apply below_drew1 | refine below_set ?_ GE175.out) | exact HB.out)))); have n5_ := Aside0.mk (blk_below (g := gb175) (o := .cells #[.int .i64 a0_0, .int .i64 a0_1, .int .i64 a0_2, .int .i64 a0_3, .bool a0_4, .int .u64 a0_5, .int .u64 a0_6, .bool a0_7, .int .u64 a0_8, .int .u64 a0_9, .string a0_10] 26 (0, 0)) (by (with_reducible repeat (first | refine blk_drewN ?_ _ | refine blk_drew ?_ | refine blk_alloc ?_ _)); exact BK175.out) hb); have n6_ := Aside0.mk (below_step (by repeat (first | (with_reducible first | exact HB.out | apply below_alloc | apply pw_below_drewN | apply below_drew1 | refine below_set ?_ GE175.out) | exact HB.out)) hb); clear HO182; clear HO185; clear HO188; clear HO191; clear BK175; clear HB; have HO182 := n0_; have HO185 := n1_; have HO188 := n2_; have HO191 := n3_; have HO194 := n4_; have BK175 := n5_; have HB := n6_; clear n0_ n1_ n2_ n3_ n4_ n5_ n6_; (try clear hb); (try clear hb2); (try clear hk); (try clear hi); (try clear ho0); have hcz46_0 : w45.cell? ⟨gb175, 0, none⟩ = some (.int .i64 a0_0) := (blk_cell BK175.out 0).trans rfl; have hcz46_1 : w45.cell? ⟨gb175, 1, none⟩ = some (.int .i64 a0_1) := (blk_cell BK175.out 1).trans rfl; have hcz46_2 : w45.cell? ⟨gb175, 2, none⟩ = some (.int .i64 a0_2) := (blk_cell BK175.out 2).trans rfl; have hcz46_3 : w45.cell? ⟨gb175, 3, none⟩ = some (.int .i64 a0_3) := (blk_cell BK175.out 3).trans rfl; have hcz46_4 : w45.cell? ⟨gb175, 4, none⟩ = some (.bool a0_4) := (blk_cell BK175.out 4).trans rfl; have hcz46_5 : w45.cell? ⟨gb175, 5, none⟩ = some (.int .u64 a0_5) := (blk_cell BK175.out 5).trans rfl; have hcz46_6 : w45.cell? ⟨gb175, 6, none⟩ = some (.int .u64 a0_6) := (blk_cell BK175.out 6).trans rfl; have hcz46_7 : w45.cell? ⟨gb175, 7, none⟩ = some (.bool a0_7) := (blk_cell BK175.out 7).trans rfl; have hcz46_8 : w45.cell? ⟨gb175, 8, none⟩ = some (.int .u64 a0_8) := (blk_cell BK175.out 8).trans rfl; have hcz46_9 : w45.cell? ⟨gb175, 9, none⟩ = some (.int .u64 a0_9) := (blk_cell BK175.out 9).trans rfl; have hcz46_10 : w45.cell? ⟨gb175, 10, none⟩ = some (.string a0_10) := (blk_cell BK175.out 10).trans rfl; have hfz46_0 := blk_frozen BK175.out 0; have hfz46_1 := blk_frozen BK175.out 1; have hfz46_2 := blk_frozen BK175.out 2; have hfz46_3 := blk_frozen BK175.out 3; have hfz46_4 := blk_frozen BK175.out 4; have hfz46_5 := blk_frozen BK175.out 5; have hfz46_6 := blk_frozen BK175.out 6; have hfz46_7 := blk_frozen BK175.out 7; have hfz46_8 := blk_frozen BK175.out 8; have hfz46_9 := blk_frozen BK175.out 9; have hfz46_10 := blk_frozen BK175.out 10; obtain ⟨Ao47, co47, eo47⟩ := Kd.R_slice HO194.out; subst eo47) | ((with_reducible refine gate_callee (f := 25) rfl ?_); refine goesL_ (some 76) rfl rfl Try.func25 (by kernel_rfl) rfl #[.slice Ao47 t192.length co47, .int .i64 8, .int .u64 a0_6] rfl (by (try simp only [List.map_toArray, List.map_cons, List.map_nil]); first | done | rfl | (simp only [List.length_drop, List.length_take]; rfl)) ?_; (with_reducible refine (crosswayref01_Put.calls kj14 _ _ t192 8 a0_6 t195 _ ?side1 ?side2 A28.out).mono ?_); (case side1 => repeat (first | exact (Kd.R_reads' HO194.out).2.2 | (with_reducible refine Kd.C_alloc ?_ _) | (with_reducible refine Kd.C_drewN ?_ _) | (with_reducible refine Kd.C_drew ?_))); (case side2 => exact (Kd.R_reads' HO194.out).2.1); rintro e w48 ⟨v196, rfl, ho0, hb⟩; refine ⟨_, rfl, ?_⟩; have n0_ := Aside0.mk (Kd.R_elder' (by (with_reducible repeat (first | apply Kd.R_alloc | apply Kd.R_drewN | apply Kd.R_drew)); exact HO182.out) (Kd.R_base ho0) hb); have n1_ := Aside0.mk (Kd.R_elder' (by (with_reducible repeat (first | apply Kd.R_alloc | apply Kd.R_drewN | apply Kd.R_drew)); exact HO185.out) (Kd.R_base ho0) hb); have n2_ := Aside0.mk (Kd.R_elder' (by (with_reducible repeat (first | apply Kd.R_alloc | apply Kd.R_drewN | apply Kd.R_drew)); exact HO188.out) (Kd.R_base ho0) hb); have n3_ := Aside0.mk (Kd.R_elder' (by (with_reducible repeat (first | apply Kd.R_alloc | apply Kd.R_drewN | apply Kd.R_drew)); exact HO191.out) (Kd.R_base ho0) hb); have n4_ := Aside0.mk (Kd.R_elder' (by (with_reducible repeat (first | apply Kd.R_alloc | apply Kd.R_drewN | apply Kd.R_drew)); exact HO194.out) (Kd.R_base ho0) hb); have n5_ := Aside0.mk (Kd.R_lower (Kd.R_new' (Kd.R_new' (Kd.R_new' (Kd.R_new' (Kd.R_new' ho0 (Kd.R_lt (by (with_reducible repeat (first | apply Kd.R_alloc | apply Kd.R_drewN | apply Kd.R_drew)); exact HO182.out))) (Kd.R_lt (by (with_reducible repeat (first | apply Kd.R_alloc | apply Kd.R_drewN | apply Kd.R_drew)); exact HO185.out))) (Kd.R_lt (by (with_reducible repeat (first | apply Kd.R_alloc | apply Kd.R_drewN | apply Kd.R_drew)); exact HO188.out))) (Kd.R_lt (by (with_reducible repeat (first | apply Kd.R_alloc | apply Kd.R_drewN | apply Kd.R_drew)); exact HO191.out))) (Kd.R_lt (by (with_reducible repeat (first | apply Kd.R_alloc | apply Kd.R_drewN | apply Kd.R_drew)); exact HO194.out))) (below_size (by repeat (first | (with_reducible first | exact HB.out | apply below_alloc | apply pw_below_drewN | apply below_drew1 | refine below_set ?_ GE175.out) | exact HB.out)))); have n6_ := Aside0.mk (blk_below (g := gb175) (o := .cells #[.int .i64 a0_0, .int .i64 a0_1, .int .i64 a0_2, .int .i64 a0_3, .bool a0_4, .int .u64 a0_5, .int .u64 a0_6, .bool a0_7, .int .u64 a0_8, .int .u64 a0_9, .string a0_10] 26 (0, 0)) (by (with_reducible repeat (first | refine blk_drewN ?_ _ | refine blk_drew ?_ | refine blk_alloc ?_ _)); exact BK175.out) hb); have n7_ := Aside0.mk (below_step (by repeat (first | (with_reducible first | exact HB.out | apply below_alloc | apply pw_below_drewN | apply below_drew1 | refine below_set ?_ GE175.out) | exact HB.out)) hb); clear HO182; clear HO185; clear HO188; clear HO191; clear HO194; clear BK175; clear HB; have HO182 := n0_; have HO185 := n1_; have HO188 := n2_; have HO191 := n3_; have HO194 := n4_; have HO197 := n5_; have BK175 := n6_; have HB := n7_; clear n0_ n1_ n2_ n3_ n4_ n5_ n6_ n7_; (try clear hb); (try clear hb2); (try clear hk); (try clear hi); (try clear ho0); have hcz49_0 : w48.cell? ⟨gb175, 0, none⟩ = some (.int .i64 a0_0) := (blk_cell BK175.out 0).trans rfl; have hcz49_1 : w48.cell? ⟨gb175, 1, none⟩ = some (.int .i64 a0_1) := (blk_cell BK175.out 1).trans rfl; have hcz49_2 : w48.cell? ⟨gb175, 2, none⟩ = some (.int .i64 a0_2) := (blk_cell BK175.out 2).trans rfl; have hcz49_3 : w48.cell? ⟨gb175, 3, none⟩ = some (.int .i64 a0_3) := (blk_cell BK175.out 3).trans rfl; have hcz49_4 : w48.cell? ⟨gb175, 4, none⟩ = some (.bool a0_4) := (blk_cell BK175.out 4).trans rfl; have hcz49_5 : w48.cell? ⟨gb175, 5, none⟩ = some (.int .u64 a0_5) := (blk_cell BK175.out 5).trans rfl; have hcz49_6 : w48.cell? ⟨gb175, 6, none⟩ = some (.int .u64 a0_6) := (blk_cell BK175.out 6).trans rfl; have hcz49_7 : w48.cell? ⟨gb175, 7, none⟩ = some (.bool a0_7) := (blk_cell BK175.out 7).trans rfl; have hcz49_8 : w48.cell? ⟨gb175, 8, none⟩ = some (.int .u64 a0_8) := (blk_cell BK175.out 8).trans rfl; have hcz49_9 : w48.cell? ⟨gb175, 9, none⟩ = some (.int .u64 a0_9) := (blk_cell BK175.out 9).trans rfl; have hcz49_10 : w48.cell? ⟨gb175, 10, none⟩ = some (.string a0_10) := (blk_cell BK175.out 10).trans rfl; have hfz49_0 := blk_frozen BK175.out 0; have hfz49_1 := blk_frozen BK175.out 1; have hfz49_2 := blk_frozen BK175.out 2; have hfz49_3 := blk_frozen BK175.out 3; have hfz49_4 := blk_frozen BK175.out 4; have hfz49_5 := blk_frozen BK175.out 5; have hfz49_6 := blk_frozen BK175.out 6; have hfz49_7 := blk_frozen BK175.out 7; have hfz49_8 := blk_frozen BK175.out 8; have hfz49_9 := blk_frozen BK175.out 9; have hfz49_10 := blk_frozen BK175.out 10; obtain ⟨Ao50, co50, eo50⟩ := Kd.R_slice HO197.out; subst eo50) | ((with_reducible refine gate_callee (f := 25) rfl ?_); refine goesL_ (some 81) rfl rfl Try.func25 (by kernel_rfl) rfl #[.slice Ao50 t195.length co50, .int .i64 8, .int .u64 a0_8] rfl (by (try simp only [List.map_toArray, List.map_cons, List.map_nil]); first | done | rfl | (simp only [List.length_drop, List.length_take]; rfl)) ?_; (with_reducible refine (crosswayref01_Put.calls kj14 _ _ t195 8 a0_8 t198 _ ?side1 ?side2 A29.out).mono ?_); (case side1 => repeat (first | exact (Kd.R_reads' HO197.out).2.2 | (with_reducible refine Kd.C_alloc ?_ _) | (with_reducible refine Kd.C_drewN ?_ _) | (with_reducible refine Kd.C_drew ?_))); (case side2 => exact (Kd.R_reads' HO197.out).2.1); rintro e w51 ⟨v199, rfl, ho0, hb⟩; refine ⟨_, rfl, ?_⟩; have n0_ := Aside0.mk (Kd.R_elder' (by (with_reducible repeat (first | apply Kd.R_alloc | apply Kd.R_drewN | apply Kd.R_drew)); exact HO182.out) (Kd.R_base ho0) hb); have n1_ := Aside0.mk (Kd.R_elder' (by (with_reducible repeat (first | apply Kd.R_alloc | apply Kd.R_drewN | apply Kd.R_drew)); exact HO185.out) (Kd.R_base ho0) hb); have n2_ := Aside0.mk (Kd.R_elder' (by (with_reducible repeat (first | apply Kd.R_alloc | apply Kd.R_drewN | apply Kd.R_drew)); exact HO188.out) (Kd.R_base ho0) hb); have n3_ := Aside0.mk (Kd.R_elder' (by (with_reducible repeat (first | apply Kd.R_alloc | apply Kd.R_drewN | apply Kd.R_drew)); exact HO191.out) (Kd.R_base ho0) hb); have n4_ := Aside0.mk (Kd.R_elder' (by (with_reducible repeat (first | apply Kd.R_alloc | apply Kd.R_drewN | apply Kd.R_drew)); exact HO194.out) (Kd.R_base ho0) hb); have n5_ := Aside0.mk (Kd.R_elder' (by (with_reducible repeat (first | apply Kd.R_alloc | apply Kd.R_drewN | apply Kd.R_drew)); exact HO197.out) (Kd.R_base ho0) hb); have n6_ := Aside0.mk (Kd.R_lower (Kd.R_new' (Kd.R_new' (Kd.R_new' (Kd.R_new' (Kd.R_new' (Kd.R_new' ho0 (Kd.R_lt (by (with_reducible repeat (first | apply Kd.R_alloc | apply Kd.R_drewN | apply Kd.R_drew)); exact HO182.out))) (Kd.R_lt (by (with_reducible repeat (first | apply Kd.R_alloc | apply Kd.R_drewN | apply Kd.R_drew)); exact HO185.out))) (Kd.R_lt (by (with_reducible repeat (first | apply Kd.R_alloc | apply Kd.R_drewN | apply Kd.R_drew)); exact HO188.out))) (Kd.R_lt (by (with_reducible repeat (first | apply Kd.R_alloc | apply Kd.R_drewN | apply Kd.R_drew)); exact HO191.out))) (Kd.R_lt (by (with_reducible repeat (first | apply Kd.R_alloc | apply Kd.R_drewN | apply Kd.R_drew)); exact HO194.out))) (Kd.R_lt (by (with_reducible repeat (first | apply Kd.R_alloc | apply Kd.R_drewN | apply Kd.R_drew)); exact HO197.out))) (below_size (by repeat (first | (with_reducible first | exact HB.out | apply below_alloc | apply pw_below_drewN | apply below_drew1 | refine below_set ?_ GE175.out) | exact HB.out)))); have n7_ := Aside0.mk (blk_below (g := gb175) (o := .cells #[.int .i64 a0_0, .int .i64 a0_1, .int .i64 a0_2, .int .i64 a0_3, .bool a0_4, .int .u64 a0_5, .int .u64 a0_6, .bool a0_7, .int .u64 a0_8, .int .u64 a0_9, .string a0_10] 26 (0, 0)) (by (with_reducible repeat (first | refine blk_drewN ?_ _ | refine blk_drew ?_ | refine blk_alloc ?_ _)); exact BK175.out) hb); have n8_ := Aside0.mk (below_step (by repeat (first | (with_reducible first | exact HB.out | apply below_alloc | apply pw_below_drewN | apply below_drew1 | refine below_set ?_ GE175.out) | exact HB.out)) hb); clear HO182; clear HO185; clear HO188; clear HO191; clear HO194; clear HO197; clear BK175; clear HB; have HO182 := n0_; have HO185 := n1_; have HO188 := n2_; have HO191 := n3_; have HO194 := n4_; have HO197 := n5_; have HO200 := n6_; have BK175 := n7_; have HB := n8_; clear n0_ n1_ n2_ n3_ n4_ n5_ n6_ n7_ n8_; (try clear hb); (try clear hb2); (try clear hk); (try clear hi); (try clear ho0); have hcz52_0 : w51.cell? ⟨gb175, 0, none⟩ = some (.int .i64 a0_0) := (blk_cell BK175.out 0).trans rfl; have hcz52_1 : w51.cell? ⟨gb175, 1, none⟩ = some (.int .i64 a0_1) := (blk_cell BK175.out 1).trans rfl; have hcz52_2 : w51.cell? ⟨gb175, 2, none⟩ = some (.int .i64 a0_2) := (blk_cell BK175.out 2).trans rfl; have hcz52_3 : w51.cell? ⟨gb175, 3, none⟩ = some (.int .i64 a0_3) := (blk_cell BK175.out 3).trans rfl; have hcz52_4 : w51.cell? ⟨gb175, 4, none⟩ = some (.bool a0_4) := (blk_cell BK175.out 4).trans rfl; have hcz52_5 : w51.cell? ⟨gb175, 5, none⟩ = some (.int .u64 a0_5) := (blk_cell BK175.out 5).trans rfl; have hcz52_6 : w51.cell? ⟨gb175, 6, none⟩ = some (.int .u64 a0_6) := (blk_cell BK175.out 6).trans rfl; have hcz52_7 : w51.cell? ⟨gb175, 7, none⟩ = some (.bool a0_7) := (blk_cell BK175.out 7).trans rfl; have hcz52_8 : w51.cell? ⟨gb175, 8, none⟩ = some (.int .u64 a0_8) := (blk_cell BK175.out 8).trans rfl; have hcz52_9 : w51.cell? ⟨gb175, 9, none⟩ = some (.int .u64 a0_9) := (blk_cell BK175.out 9).trans rfl; have hcz52_10 : w51.cell? ⟨gb175, 10, none⟩ = some (.string a0_10) := (blk_cell BK175.out 10).trans rfl; have hfz52_0 := blk_frozen BK175.out 0; have hfz52_1 := blk_frozen BK175.out 1; have hfz52_2 := blk_frozen BK175.out 2; have hfz52_3 := blk_frozen BK175.out 3; have hfz52_4 := blk_frozen BK175.out 4; have hfz52_5 := blk_frozen BK175.out 5; have hfz52_6 := blk_frozen BK175.out 6; have hfz52_7 := blk_frozen BK175.out 7; have hfz52_8 := blk_frozen BK175.out 8; have hfz52_9 := blk_frozen BK175.out 9; have hfz52_10 := blk_frozen BK175.out 10; obtain ⟨Ao53, co53, eo53⟩ := Kd.R_slice HO200.out; subst eo53) | ((with_reducible refine gate_callee (f := 25) rfl ?_); refine goesL_ (some 86) rfl rfl Try.func25 (by kernel_rfl) rfl #[.slice Ao53 t198.length co53, .int .i64 8, .int .u64 a0_9] rfl (by (try simp only [List.map_toArray, List.map_cons, List.map_nil]); first | done | rfl | (simp only [List.length_drop, List.length_take]; rfl)) ?_; (with_reducible refine (crosswayref01_Put.calls kj14 _ _ t198 8 a0_9 t201 _ ?side1 ?side2 A30.out).mono ?_); (case side1 => repeat (first | exact (Kd.R_reads' HO200.out).2.2 | (with_reducible refine Kd.C_alloc ?_ _) | (with_reducible refine Kd.C_drewN ?_ _) | (with_reducible refine Kd.C_drew ?_))); (case side2 => exact (Kd.R_reads' HO200.out).2.1); rintro e w54 ⟨v202, rfl, ho0, hb⟩; refine ⟨_, rfl, ?_⟩; have n0_ := Aside0.mk (Kd.R_elder' (by (with_reducible repeat (first | apply Kd.R_alloc | apply Kd.R_drewN | apply Kd.R_drew)); exact HO182.out) (Kd.R_base ho0) hb); have n1_ := Aside0.mk (Kd.R_elder' (by (with_reducible repeat (first | apply Kd.R_alloc | apply Kd.R_drewN | apply Kd.R_drew)); exact HO185.out) (Kd.R_base ho0) hb); have n2_ := Aside0.mk (Kd.R_elder' (by (with_reducible repeat (first | apply Kd.R_alloc | apply Kd.R_drewN | apply Kd.R_drew)); exact HO188.out) (Kd.R_base ho0) hb); have n3_ := Aside0.mk (Kd.R_elder' (by (with_reducible repeat (first | apply Kd.R_alloc | apply Kd.R_drewN | apply Kd.R_drew)); exact HO191.out) (Kd.R_base ho0) hb); have n4_ := Aside0.mk (Kd.R_elder' (by (with_reducible repeat (first | apply Kd.R_alloc | apply Kd.R_drewN | apply Kd.R_drew)); exact HO194.out) (Kd.R_base ho0) hb); have n5_ := Aside0.mk (Kd.R_elder' (by (with_reducible repeat (first | apply Kd.R_alloc | apply Kd.R_drewN | apply Kd.R_drew)); exact HO197.out) (Kd.R_base ho0) hb); have n6_ := Aside0.mk (Kd.R_elder' (by (with_reducible repeat (first | apply Kd.R_alloc | apply Kd.R_drewN | apply Kd.R_drew)); exact HO200.out) (Kd.R_base ho0) hb); have n7_ := Aside0.mk (Kd.R_lower (Kd.R_new' (Kd.R_new' (Kd.R_new' (Kd.R_new' (Kd.R_new' (Kd.R_new' (Kd.R_new' ho0 (Kd.R_lt (by (with_reducible repeat (first | apply Kd.R_alloc | apply Kd.R_drewN | apply Kd.R_drew)); exact HO182.out))) (Kd.R_lt (by (with_reducible repeat (first | apply Kd.R_alloc | apply Kd.R_drewN | apply Kd.R_drew)); exact HO185.out))) (Kd.R_lt (by (with_reducible repeat (first | apply Kd.R_alloc | apply Kd.R_drewN | apply Kd.R_drew)); exact HO188.out))) (Kd.R_lt (by (with_reducible repeat (first | apply Kd.R_alloc | apply Kd.R_drewN | apply Kd.R_drew)); exact HO191.out))) (Kd.R_lt (by (with_reducible repeat (first | apply Kd.R_alloc | apply Kd.R_drewN | apply Kd.R_drew)); exact HO194.out))) (Kd.R_lt (by (with_reducible repeat (first | apply Kd.R_alloc | apply Kd.R_drewN | apply Kd.R_drew)); exact HO197.out))) (Kd.R_lt (by (with_reducible repeat (first | apply Kd.R_alloc | apply Kd.R_drewN | apply Kd.R_drew)); exact HO200.out))) (below_size (by repeat (first | (with_reducible first | exact HB.out | apply below_alloc | apply pw_below_drewN | apply below_drew1 | refine below_set ?_ GE175.out) | exact HB.out)))); have n8_ := Aside0.mk (blk_below (g := gb175) (o := .cells #[.int .i64 a0_0, .int .i64 a0_1, .int .i64 a0_2, .int .i64 a0_3, .bool a0_4, .int .u64 a0_5, .int .u64 a0_6, .bool a0_7, .int .u64 a0_8, .int .u64 a0_9, .string a0_10] 26 (0, 0)) (by (with_reducible repeat (first | refine blk_drewN ?_ _ | refine blk_drew ?_ | refine blk_alloc ?_ _)); exact BK175.out) hb); have n9_ := Aside0.mk (below_step (by repeat (first | (with_reducible first | exact HB.out | apply below_alloc | apply pw_below_drewN | apply below_drew1 | refine below_set ?_ GE175.out) | exact HB.out)) hb); clear HO182; clear HO185; clear HO188; clear HO191; clear HO194; clear HO197; clear HO200; clear BK175; clear HB; have HO182 := n0_; have HO185 := n1_; have HO188 := n2_; have HO191 := n3_; have HO194 := n4_; have HO197 := n5_; have HO200 := n6_; have HO203 := n7_; have BK175 := n8_; have HB := n9_; clear n0_ n1_ n2_ n3_ n4_ n5_ n6_ n7_ n8_ n9_; (try clear hb); (try clear hb2); (try clear hk); (try clear hi); (try clear ho0); have hcv55 := own_string (P := Try.prog) Try.underlying48 Try.underlying5 Try.underlying9 (Kd.own_of_R HO203.out); have hcz56_0 : w54.cell? ⟨gb175, 0, none⟩ = some (.int .i64 a0_0) := (blk_cell BK175.out 0).trans rfl; have hcz56_1 : w54.cell? ⟨gb175, 1, none⟩ = some (.int .i64 a0_1) := (blk_cell BK175.out 1).trans rfl; have hcz56_2 : w54.cell? ⟨gb175, 2, none⟩ = some (.int .i64 a0_2) := (blk_cell BK175.out 2).trans rfl; have hcz56_3 : w54.cell? ⟨gb175, 3, none⟩ = some (.int .i64 a0_3) := (blk_cell BK175.out 3).trans rfl; have hcz56_4 : w54.cell? ⟨gb175, 4, none⟩ = some (.bool a0_4) := (blk_cell BK175.out 4).trans rfl; have hcz56_5 : w54.cell? ⟨gb175, 5, none⟩ = some (.int .u64 a0_5) := (blk_cell BK175.out 5).trans rfl; have hcz56_6 : w54.cell? ⟨gb175, 6, none⟩ = some (.int .u64 a0_6) := (blk_cell BK175.out 6).trans rfl; have hcz56_7 : w54.cell? ⟨gb175, 7, none⟩ = some (.bool a0_7) := (blk_cell BK175.out 7).trans rfl; have hcz56_8 : w54.cell? ⟨gb175, 8, none⟩ = some (.int .u64 a0_8) := (blk_cell BK175.out 8).trans rfl; have hcz56_9 : w54.cell? ⟨gb175, 9, none⟩ = some (.int .u64 a0_9) := (blk_cell BK175.out 9).trans rfl; have hcz56_10 : w54.cell? ⟨gb175, 10, none⟩ = some (.string a0_10) := (blk_cell BK175.out 10).trans rfl; have hfz56_0 := blk_frozen BK175.out 0; have hfz56_1 := blk_frozen BK175.out 1; have hfz56_2 := blk_frozen BK175.out 2; have hfz56_3 := blk_frozen BK175.out 3; have hfz56_4 := blk_frozen BK175.out 4; have hfz56_5 := blk_frozen BK175.out 5; have hfz56_6 := blk_frozen BK175.out 6; have hfz56_7 := blk_frozen BK175.out 7; have hfz56_8 := blk_frozen BK175.out 8; have hfz56_9 := blk_frozen BK175.out 9; have hfz56_10 := blk_frozen BK175.out 10))
        go_ret2
        exact ⟨by first | rfl | (simp [errW_none, errW_some] <;> rfl) | (simp [*, errW_none, errW_some] <;> rfl), by repeat (first | (with_reducible first | exact HB.out | apply below_alloc | apply pw_below_drewN | apply below_drew1 | refine below_set ?_ GE175.out) | exact HB.out)⟩
       ·
        rw [if_neg c31] at H
        exact absurd H (by simp)

end Go.Proofs.Ytfkdmdacicahcaa.PBase
