/- Functions of the program as Lean functions, each with a proof that a call comes to what it says. Conditions: those of each theorem. Laid by a program of this session. -/
import Derived.Test.YtaoopneiglgnkaaDoorPBasex0
import Derived.Test.YtaoopneiglgnkaaDoorPBasex2
import Derived.Test.YtaoopneiglgnkaaDoorPBasex6
import Derived.Test.YtaoopneiglgnkaaDoorPBasex7
namespace Go.Proofs.YtaoopneiglgnkaaDoor.PBase
open Go.RowKit Go.Proofs.YtaoopneiglgnkaaDoor Go.Proofs.YtaoopneiglgnkaaDoorW.PrintWords Go.Proofs.YtaoopneiglgnkaaDoorW.PrintLast Go.Proofs.YtaoopneiglgnkaaDoorW.PrintMore
attribute [local go_sem] max2_int min2_int max_two min_two max_three min_three max_four min_four   -- for this text's walks alone
set_option linter.unusedVariables false
set_option linter.unusedSimpArgs false

/-! ### excuse_maySix: function 34 -/
mutual
def excuse_maySix.j0 : Nat → List (S68) → Int → Int → Bool → Int → Int → Int → Int → Bool → Int → Int → Bool → Int → Int → ByteArray → Option (Bool)
 | 0, _, _, _, _, _, _, _, _, _, _, _, _, _, _, _ => none
 | k + 1, x5, x6, x7, x39, x176000, x176001, x176002, x176003, x176004, x176005, x176006, x176007, x176008, x176009, x176010 => if x39 = true then (some false) else (excuse_maySix.l0 k x6 x7 x5 (x5.length : Int) 0 x176000 x176001 x176002 x176003 x176004 x176005 x176006 x176007 x176008 x176009 x176010)
def excuse_maySix.l0 : Nat → Int → Int → List (S68) → Int → Int → Int → Int → Int → Int → Bool → Int → Int → Bool → Int → Int → ByteArray → Option (Bool)
 | 0, _, _, _, _, _, _, _, _, _, _, _, _, _, _, _, _ => none
 | k + 1, x6, x7, x40, x41, x42, x176000, x176001, x176002, x176003, x176004, x176005, x176006, x176007, x176008, x176009, x176010 => if x42 < x41 then (if 0 ≤ x42 then (if x42 < (x40.length : Int) then (if ((rd_T68 x40 x42).f0) = 44 then (if 0 ≤ (wrap64 (((rd_T68 x40 x42).f1) + 2)) then (if (wrap64 (((rd_T68 x40 x42).f1) + 2)) < (x176010.size : Int) then (if (bt x176010 (wrap64 (((rd_T68 x40 x42).f1) + 2))) = 0 then (if 0 ≤ (wrap64 (((rd_T68 x40 x42).f1) + 3)) then (if (wrap64 (((rd_T68 x40 x42).f1) + 3)) < (x176010.size : Int) then (if ((bt x176010 (wrap64 (((rd_T68 x40 x42).f1) + 3))) / 8) = 0 then (excuse_maySix.l0 k x6 x7 x40 x41 (wrap64 (x42 + 1)) x176000 x176001 x176002 x176003 x176004 x176005 x176006 x176007 x176008 x176009 x176010) else (some false)) else (none)) else (none)) else (some false)) else (none)) else (none)) else (excuse_maySix.l0 k x6 x7 x40 x41 (wrap64 (x42 + 1)) x176000 x176001 x176002 x176003 x176004 x176005 x176006 x176007 x176008 x176009 x176010)) else (none)) else (none)) else (if x6 = 58 then (if 0 ≤ x7 then (if x7 ≤ (x176010.size : Int) then ((excuse_isError.f true (x176010.extract (x7 : Int).toNat x176010.size)).bind fun t185 => (some (!t185))) else (none)) else (none)) else (some (!false)))
end
def excuse_maySix.f (k : Nat) (a0 : ByteArray) : Option (Bool) := (ip6_Take.f k a0).bind fun bt163 => ((ip6_Chain.f bt163.2.2.1 bt163.2.2.2.2.2.2.2.2.2.2.1).bind fun bt176 => (if bt163.2.2.2.2.2.2.2.2.2.2.2 = 0 then (if bt176.2.2.2 = 0 then ((excuse_ends.f bt163.2.2.2.2.1 bt163.2.2.2.2.2.1 bt163.2.2.2.2.2.2.1 bt163.2.2.2.2.2.2.2.1 bt163.2.2.2.2.2.2.2.2.1 bt163.2.2.2.2.2.2.2.2.2.1).bind fun t182 => (excuse_maySix.j0 k bt176.1 bt176.2.1 bt176.2.2.1 (!t182) bt163.1 bt163.2.1 bt163.2.2.1 bt163.2.2.2.1 bt163.2.2.2.2.1 bt163.2.2.2.2.2.1 bt163.2.2.2.2.2.2.1 bt163.2.2.2.2.2.2.2.1 bt163.2.2.2.2.2.2.2.2.1 bt163.2.2.2.2.2.2.2.2.2.1 bt163.2.2.2.2.2.2.2.2.2.2.1)) else (excuse_maySix.j0 k bt176.1 bt176.2.1 bt176.2.2.1 true bt163.1 bt163.2.1 bt163.2.2.1 bt163.2.2.2.1 bt163.2.2.2.2.1 bt163.2.2.2.2.2.1 bt163.2.2.2.2.2.2.1 bt163.2.2.2.2.2.2.2.1 bt163.2.2.2.2.2.2.2.2.1 bt163.2.2.2.2.2.2.2.2.2.1 bt163.2.2.2.2.2.2.2.2.2.2.1)) else (excuse_maySix.j0 k bt176.1 bt176.2.1 bt176.2.2.1 true bt163.1 bt163.2.1 bt163.2.2.1 bt163.2.2.2.1 bt163.2.2.2.2.1 bt163.2.2.2.2.2.1 bt163.2.2.2.2.2.2.1 bt163.2.2.2.2.2.2.2.1 bt163.2.2.2.2.2.2.2.2.1 bt163.2.2.2.2.2.2.2.2.2.1 bt163.2.2.2.2.2.2.2.2.2.2.1)))
theorem excuse_maySix.mono_l : ∀ k, (∀ y0 y1 y2 y3 y4 y5 y6 y7 y8 y9 y10 y11 y12 y13 y14, LeO (excuse_maySix.j0 k y0 y1 y2 y3 y4 y5 y6 y7 y8 y9 y10 y11 y12 y13 y14) (excuse_maySix.j0 (k + 1) y0 y1 y2 y3 y4 y5 y6 y7 y8 y9 y10 y11 y12 y13 y14)) ∧ (∀ y0 y1 y2 y3 y4 y5 y6 y7 y8 y9 y10 y11 y12 y13 y14 y15, LeO (excuse_maySix.l0 k y0 y1 y2 y3 y4 y5 y6 y7 y8 y9 y10 y11 y12 y13 y14 y15) (excuse_maySix.l0 (k + 1) y0 y1 y2 y3 y4 y5 y6 y7 y8 y9 y10 y11 y12 y13 y14 y15))
 | 0 => ⟨fun _ _ _ _ _ _ _ _ _ _ _ _ _ _ _ r h => by simp [excuse_maySix.j0] at h, fun _ _ _ _ _ _ _ _ _ _ _ _ _ _ _ _ r h => by simp [excuse_maySix.l0] at h⟩
 | k + 1 => by
  obtain ⟨ih0, ih1⟩ := excuse_maySix.mono_l k
  refine ⟨?_, ?_⟩
  ·
   intro y0 y1 y2 y3 y4 y5 y6 y7 y8 y9 y10 y11 y12 y13 y14
   unfold excuse_maySix.j0
   repeat' first
   | (with_reducible exact ih0 _ _ _ _ _ _ _ _ _ _ _ _ _ _ _)
   | (with_reducible exact ih1 _ _ _ _ _ _ _ _ _ _ _ _ _ _ _ _)
   | (with_reducible exact ip6_Take.mono _ _)
   | (with_reducible exact LeO.refl _)
   | (with_reducible exact LeO.none _)
   | (with_reducible refine LeO.ite ?_ ?_)
   | (with_reducible refine LeO.bind ?_ (fun _ => ?_))
   | exact ih0 _ _ _ _ _ _ _ _ _ _ _ _ _ _ _
   | exact ih1 _ _ _ _ _ _ _ _ _ _ _ _ _ _ _ _
   | exact ip6_Take.mono _ _
   | exact LeO.none _
   | refine LeO.ite ?_ ?_
   | refine LeO.bind ?_ (fun _ => ?_)
  ·
   intro y0 y1 y2 y3 y4 y5 y6 y7 y8 y9 y10 y11 y12 y13 y14 y15
   unfold excuse_maySix.l0
   repeat' first
   | (with_reducible exact ih0 _ _ _ _ _ _ _ _ _ _ _ _ _ _ _)
   | (with_reducible exact ih1 _ _ _ _ _ _ _ _ _ _ _ _ _ _ _ _)
   | (with_reducible exact ip6_Take.mono _ _)
   | (with_reducible exact LeO.refl _)
   | (with_reducible exact LeO.none _)
   | (with_reducible refine LeO.ite ?_ ?_)
   | (with_reducible refine LeO.bind ?_ (fun _ => ?_))
   | exact ih0 _ _ _ _ _ _ _ _ _ _ _ _ _ _ _
   | exact ih1 _ _ _ _ _ _ _ _ _ _ _ _ _ _ _ _
   | exact ip6_Take.mono _ _
   | exact LeO.none _
   | refine LeO.ite ?_ ?_
   | refine LeO.bind ?_ (fun _ => ?_)
theorem excuse_maySix.mono : ∀ a0 k, LeO (excuse_maySix.f k a0) (excuse_maySix.f (k + 1) a0) := by
 intro a0 k
 obtain ⟨ih0, ih1⟩ := excuse_maySix.mono_l k
 unfold excuse_maySix.f
 repeat' first
   | (with_reducible exact ih0 _ _ _ _ _ _ _ _ _ _ _ _ _ _ _)
   | (with_reducible exact ih1 _ _ _ _ _ _ _ _ _ _ _ _ _ _ _ _)
   | (with_reducible exact ip6_Take.mono _ _)
   | (with_reducible exact LeO.refl _)
   | (with_reducible exact LeO.none _)
   | (with_reducible refine LeO.ite ?_ ?_)
   | (with_reducible refine LeO.bind ?_ (fun _ => ?_))
   | exact ih0 _ _ _ _ _ _ _ _ _ _ _ _ _ _ _
   | exact ih1 _ _ _ _ _ _ _ _ _ _ _ _ _ _ _ _
   | exact ip6_Take.mono _ _
   | exact LeO.none _
   | refine LeO.ite ?_ ?_
   | refine LeO.bind ?_ (fun _ => ?_)
set_option maxHeartbeats 8000000 in
set_option maxRecDepth 100000 in
theorem excuse_maySix.calls (k : Nat) (a0 : ByteArray) (r : Bool) (w : World) (h : excuse_maySix.f k a0 = some r) :
  Calls Tryd.prog 34 #[.string a0] w fun e w' => e = .returned (.bool r) ∧ Below w.heap.size w w' := by
 have hu45 := Tryd.underlying45
 have hu28 := Tryd.underlying28
 have hu68 := Tryd.underlying68
 have HB := Aside0.mk (Below.refl w.heap.size w)
 have H : ((ip6_Take.f k a0).bind fun bt163 => ((ip6_Chain.f bt163.2.2.1 bt163.2.2.2.2.2.2.2.2.2.2.1).bind fun bt176 => (if bt163.2.2.2.2.2.2.2.2.2.2.2 = 0 then (if bt176.2.2.2 = 0 then ((excuse_ends.f bt163.2.2.2.2.1 bt163.2.2.2.2.2.1 bt163.2.2.2.2.2.2.1 bt163.2.2.2.2.2.2.2.1 bt163.2.2.2.2.2.2.2.2.1 bt163.2.2.2.2.2.2.2.2.2.1).bind fun t182 => (excuse_maySix.j0 k bt176.1 bt176.2.1 bt176.2.2.1 (!t182) bt163.1 bt163.2.1 bt163.2.2.1 bt163.2.2.2.1 bt163.2.2.2.2.1 bt163.2.2.2.2.2.1 bt163.2.2.2.2.2.2.1 bt163.2.2.2.2.2.2.2.1 bt163.2.2.2.2.2.2.2.2.1 bt163.2.2.2.2.2.2.2.2.2.1 bt163.2.2.2.2.2.2.2.2.2.2.1)) else (excuse_maySix.j0 k bt176.1 bt176.2.1 bt176.2.2.1 true bt163.1 bt163.2.1 bt163.2.2.1 bt163.2.2.2.1 bt163.2.2.2.2.1 bt163.2.2.2.2.2.1 bt163.2.2.2.2.2.2.1 bt163.2.2.2.2.2.2.2.1 bt163.2.2.2.2.2.2.2.2.1 bt163.2.2.2.2.2.2.2.2.2.1 bt163.2.2.2.2.2.2.2.2.2.2.1)) else (excuse_maySix.j0 k bt176.1 bt176.2.1 bt176.2.2.1 true bt163.1 bt163.2.1 bt163.2.2.1 bt163.2.2.2.1 bt163.2.2.2.2.1 bt163.2.2.2.2.2.1 bt163.2.2.2.2.2.2.1 bt163.2.2.2.2.2.2.2.1 bt163.2.2.2.2.2.2.2.2.1 bt163.2.2.2.2.2.2.2.2.2.1 bt163.2.2.2.2.2.2.2.2.2.2.1)))) = some r := h
 clear h
 replace H := Option.bind_eq_some_iff.mp H
 obtain ⟨⟨t163, t164, t165, t166, t167, t168, t169, t170, t171, t172, t173, t174⟩, A20, H⟩ := H
 replace H : ((ip6_Chain.f t165 t173).bind fun bt176 => (if t174 = 0 then (if bt176.2.2.2 = 0 then ((excuse_ends.f t167 t168 t169 t170 t171 t172).bind fun t182 => (excuse_maySix.j0 k bt176.1 bt176.2.1 bt176.2.2.1 (!t182) t163 t164 t165 t166 t167 t168 t169 t170 t171 t172 t173)) else (excuse_maySix.j0 k bt176.1 bt176.2.1 bt176.2.2.1 true t163 t164 t165 t166 t167 t168 t169 t170 t171 t172 t173)) else (excuse_maySix.j0 k bt176.1 bt176.2.1 bt176.2.2.1 true t163 t164 t165 t166 t167 t168 t169 t170 t171 t172 t173))) = some r := H
 have A2 := Aside0.mk A20
 clear A20
 replace H := Option.bind_eq_some_iff.mp H
 obtain ⟨⟨t176, t177, t178, t179⟩, A30, H⟩ := H
 replace H : (if t174 = 0 then (if t179 = 0 then ((excuse_ends.f t167 t168 t169 t170 t171 t172).bind fun t182 => (excuse_maySix.j0 k t176 t177 t178 (!t182) t163 t164 t165 t166 t167 t168 t169 t170 t171 t172 t173)) else (excuse_maySix.j0 k t176 t177 t178 true t163 t164 t165 t166 t167 t168 t169 t170 t171 t172 t173)) else (excuse_maySix.j0 k t176 t177 t178 true t163 t164 t165 t166 t167 t168 t169 t170 t171 t172 t173)) = some r := H
 have A3 := Aside0.mk A30
 clear A30
 have HC4 := Aside0.mk H
 clear H
 go_enter Tryd.func34, Tryd.ntmps34
 go_upto_region 3 with (first | ((with_reducible refine gate_callee (f := 18) rfl ?_); refine sh_C 13 Tryd.func18 #[.string a0] ?_; (with_reducible refine (ip6_Take.calls k a0 t163 t164 t165 t166 t167 t168 t169 t170 t171 t172 t173 t174 _ A2.out).mono ?_); rintro e w5 ⟨rfl, hb⟩; refine ⟨_, rfl, ?_⟩; replace HB := sh_S HB hb; (try clear hb); (try clear hb2); (try clear hk); (try clear hi)) | ((with_reducible refine gate_dst (N := 3) rfl ?_); refine sh_E 3 45 #[.int .i64 0, .int .i64 0, .int .i64 0, .int .i64 0, .bool false, .int .u64 0, .int .u64 0, .bool false, .int .u64 0, .int .u64 0, .string (⟨#[]⟩ : ByteArray)] ?_; intro gb175 hg w6 hbox hb; have BK175 := Aside0.mk hbox; have GW175 := sh_G HB hg; have GE175 := GW175; replace HB := sh_S HB hb; clear hb hbox hg; obtain ⟨hcz7_0, hcz7_1, hcz7_2, hcz7_3, hcz7_4, hcz7_5, hcz7_6, hcz7_7, hcz7_8, hcz7_9, hcz7_10⟩ := MBlk.c11 BK175.out; obtain ⟨hfz7_0, hfz7_1, hfz7_2, hfz7_3, hfz7_4, hfz7_5, hfz7_6, hfz7_7, hfz7_8, hfz7_9, hfz7_10⟩ := MBlk.f11 BK175.out) | ((with_reducible refine gate_callee (f := 67) rfl ?_); refine sh_C 21 Tryd.func67 #[.int .i64 t165, .string t173] ?_; (with_reducible refine (ip6_Chain.calls t165 t173 t176 t177 t178 t179 _ A3.out).mono ?_); rintro e w8 ⟨v180, rfl, ho0, hb⟩; refine ⟨_, rfl, ?_⟩; have n0_ := Aside0.mk (Kd.R_lower ho0 (below_size (sh_B HB))); have n1_ := Aside0.mk (blk_below (g := gb175) (o := .cells #[.int .i64 t163, .int .i64 t164, .int .i64 t165, .int .i64 t166, .bool t167, .int .u64 t168, .int .u64 t169, .bool t170, .int .u64 t171, .int .u64 t172, .string t173] 45 (0, 0)) (by (with_reducible repeat (first | refine blk_drewN ?_ _ | refine blk_drew ?_ | refine blk_alloc ?_ _)); refine blk_put (cs := #[.int .i64 t163, .int .i64 t164, .int .i64 t165, .int .i64 t166, .bool t167, .int .u64 t168, .int .u64 t169, .bool t170, .int .u64 t171, .int .u64 t172, .string (⟨#[]⟩ : ByteArray)]) ?_ 10 _ rfl; (with_reducible repeat (first | refine blk_drewN ?_ _ | refine blk_drew ?_ | refine blk_alloc ?_ _)); refine blk_put (cs := #[.int .i64 t163, .int .i64 t164, .int .i64 t165, .int .i64 t166, .bool t167, .int .u64 t168, .int .u64 t169, .bool t170, .int .u64 t171, .int .u64 0, .string (⟨#[]⟩ : ByteArray)]) ?_ 9 _ rfl; (with_reducible repeat (first | refine blk_drewN ?_ _ | refine blk_drew ?_ | refine blk_alloc ?_ _)); refine blk_put (cs := #[.int .i64 t163, .int .i64 t164, .int .i64 t165, .int .i64 t166, .bool t167, .int .u64 t168, .int .u64 t169, .bool t170, .int .u64 0, .int .u64 0, .string (⟨#[]⟩ : ByteArray)]) ?_ 8 _ rfl; (with_reducible repeat (first | refine blk_drewN ?_ _ | refine blk_drew ?_ | refine blk_alloc ?_ _)); refine blk_put (cs := #[.int .i64 t163, .int .i64 t164, .int .i64 t165, .int .i64 t166, .bool t167, .int .u64 t168, .int .u64 t169, .bool false, .int .u64 0, .int .u64 0, .string (⟨#[]⟩ : ByteArray)]) ?_ 7 _ rfl; (with_reducible repeat (first | refine blk_drewN ?_ _ | refine blk_drew ?_ | refine blk_alloc ?_ _)); refine blk_put (cs := #[.int .i64 t163, .int .i64 t164, .int .i64 t165, .int .i64 t166, .bool t167, .int .u64 t168, .int .u64 0, .bool false, .int .u64 0, .int .u64 0, .string (⟨#[]⟩ : ByteArray)]) ?_ 6 _ rfl; (with_reducible repeat (first | refine blk_drewN ?_ _ | refine blk_drew ?_ | refine blk_alloc ?_ _)); refine blk_put (cs := #[.int .i64 t163, .int .i64 t164, .int .i64 t165, .int .i64 t166, .bool t167, .int .u64 0, .int .u64 0, .bool false, .int .u64 0, .int .u64 0, .string (⟨#[]⟩ : ByteArray)]) ?_ 5 _ rfl; (with_reducible repeat (first | refine blk_drewN ?_ _ | refine blk_drew ?_ | refine blk_alloc ?_ _)); refine blk_put (cs := #[.int .i64 t163, .int .i64 t164, .int .i64 t165, .int .i64 t166, .bool false, .int .u64 0, .int .u64 0, .bool false, .int .u64 0, .int .u64 0, .string (⟨#[]⟩ : ByteArray)]) ?_ 4 _ rfl; (with_reducible repeat (first | refine blk_drewN ?_ _ | refine blk_drew ?_ | refine blk_alloc ?_ _)); refine blk_put (cs := #[.int .i64 t163, .int .i64 t164, .int .i64 t165, .int .i64 0, .bool false, .int .u64 0, .int .u64 0, .bool false, .int .u64 0, .int .u64 0, .string (⟨#[]⟩ : ByteArray)]) ?_ 3 _ rfl; (with_reducible repeat (first | refine blk_drewN ?_ _ | refine blk_drew ?_ | refine blk_alloc ?_ _)); refine blk_put (cs := #[.int .i64 t163, .int .i64 t164, .int .i64 0, .int .i64 0, .bool false, .int .u64 0, .int .u64 0, .bool false, .int .u64 0, .int .u64 0, .string (⟨#[]⟩ : ByteArray)]) ?_ 2 _ rfl; (with_reducible repeat (first | refine blk_drewN ?_ _ | refine blk_drew ?_ | refine blk_alloc ?_ _)); refine blk_put (cs := #[.int .i64 t163, .int .i64 0, .int .i64 0, .int .i64 0, .bool false, .int .u64 0, .int .u64 0, .bool false, .int .u64 0, .int .u64 0, .string (⟨#[]⟩ : ByteArray)]) ?_ 1 _ rfl; (with_reducible repeat (first | refine blk_drewN ?_ _ | refine blk_drew ?_ | refine blk_alloc ?_ _)); refine blk_put (cs := #[.int .i64 0, .int .i64 0, .int .i64 0, .int .i64 0, .bool false, .int .u64 0, .int .u64 0, .bool false, .int .u64 0, .int .u64 0, .string (⟨#[]⟩ : ByteArray)]) ?_ 0 _ rfl; (with_reducible repeat (first | refine blk_drewN ?_ _ | refine blk_drew ?_ | refine blk_alloc ?_ _)); exact BK175.out) hb); have n2_ := sh_S HB hb; clear BK175; clear HB; have HO181 := n0_; have BK175 := n1_; have HB := n2_; clear n0_ n1_ n2_; (try clear hb); (try clear hb2); (try clear hk); (try clear hi); (try clear ho0)))
 (try simp only [Act.put, List.setIfInBounds_toArray, List.set_cons_zero, List.set_cons_succ])
 go_cut [39] (fun v39 wc => ∃ (kq : Nat) (x39_3 : Bool), v39 = .bool x39_3 ∧ Aside0 (excuse_maySix.j0 kq t176 t177 t178 x39_3 t163 t164 t165 t166 t167 t168 t169 t170 t171 t172 t173 = some r) ∧ Aside0 (kq ≤ k) ∧ Aside0 (Kd.R k68 68 wc w.heap.size (fun _ => True) v180 t176) ∧ Aside0 (wc.heap[gb175]? = some (.cells #[.int .i64 t163, .int .i64 t164, .int .i64 t165, .int .i64 t166, .bool t167, .int .u64 t168, .int .u64 t169, .bool t170, .int .u64 t171, .int .u64 t172, .string t173] 45 (0, 0))) ∧ Aside0 (Below w.heap.size w wc))
 case first =>
  have H := HC4.out
  clear HC4
  by_cases c9 : t174 = 0
  ·
   rw [if_pos c9] at H
   have c9b0 : (t174 == 0) = true := beq_iff_eq.mpr c9
   have c9b1 : (t174 != 0) = false := bne_eq_false_iff_eq.mpr c9
   clear c9
   (first | rw [c9b0] | (simp only [i64_w, i32_w]; rw [c9b0]) | skip)
   by_cases c10 : t179 = 0
   ·
    rw [if_pos c10] at H
    have c10b0 : (t179 == 0) = true := beq_iff_eq.mpr c10
    have c10b1 : (t179 != 0) = false := bne_eq_false_iff_eq.mpr c10
    clear c10
    replace H := Option.bind_eq_some_iff.mp H
    obtain ⟨t182, A110, H⟩ := H
    have A11 := Aside0.mk A110
    clear A110
    have H' := Aside0.mk H
    clear H
    have hcz12_0 : w8.cell? ⟨gb175, 0, none⟩ = some (.int .i64 t163) := (blk_cell BK175.out 0).trans rfl
    have hcz12_1 : w8.cell? ⟨gb175, 1, none⟩ = some (.int .i64 t164) := (blk_cell BK175.out 1).trans rfl
    have hcz12_2 : w8.cell? ⟨gb175, 2, none⟩ = some (.int .i64 t165) := (blk_cell BK175.out 2).trans rfl
    have hcz12_3 : w8.cell? ⟨gb175, 3, none⟩ = some (.int .i64 t166) := (blk_cell BK175.out 3).trans rfl
    have hcz12_4 : w8.cell? ⟨gb175, 4, none⟩ = some (.bool t167) := (blk_cell BK175.out 4).trans rfl
    have hcz12_5 : w8.cell? ⟨gb175, 5, none⟩ = some (.int .u64 t168) := (blk_cell BK175.out 5).trans rfl
    have hcz12_6 : w8.cell? ⟨gb175, 6, none⟩ = some (.int .u64 t169) := (blk_cell BK175.out 6).trans rfl
    have hcz12_7 : w8.cell? ⟨gb175, 7, none⟩ = some (.bool t170) := (blk_cell BK175.out 7).trans rfl
    have hcz12_8 : w8.cell? ⟨gb175, 8, none⟩ = some (.int .u64 t171) := (blk_cell BK175.out 8).trans rfl
    have hcz12_9 : w8.cell? ⟨gb175, 9, none⟩ = some (.int .u64 t172) := (blk_cell BK175.out 9).trans rfl
    have hcz12_10 : w8.cell? ⟨gb175, 10, none⟩ = some (.string t173) := (blk_cell BK175.out 10).trans rfl
    have hfz12_0 := blk_frozen BK175.out 0
    have hfz12_1 := blk_frozen BK175.out 1
    have hfz12_2 := blk_frozen BK175.out 2
    have hfz12_3 := blk_frozen BK175.out 3
    have hfz12_4 := blk_frozen BK175.out 4
    have hfz12_5 := blk_frozen BK175.out 5
    have hfz12_6 := blk_frozen BK175.out 6
    have hfz12_7 := blk_frozen BK175.out 7
    have hfz12_8 := blk_frozen BK175.out 8
    have hfz12_9 := blk_frozen BK175.out 9
    have hfz12_10 := blk_frozen BK175.out 10
    go_wp2_with (first | (go_at_call 68; (with_reducible refine (excuse_ends.calls t167 t168 t169 t170 t171 t172 t182 _ A11.out).mono ?_); rintro e w13 ⟨rfl, hb⟩; have n0_ := Aside0.mk (Kd.R_below (by (with_reducible repeat (first | apply Kd.R_alloc | apply Kd.R_drewN | apply Kd.R_drew)); exact HO181.out) hb); have n1_ := sh_L BK175 hb; have n2_ := sh_S HB hb; clear HO181; clear BK175; clear HB; have HO181 := n0_; have BK175 := n1_; have HB := n2_; clear n0_ n1_ n2_; (try clear hb); (try clear hb2); (try clear hk); (try clear hi)))
    go_meet
    case rel => exact ⟨_, (!t182), (by first | rfl | (simp; done) | (simp [*]; done)), H', ⟨by first | omega | exact Nat.le_refl _⟩, ⟨by (with_reducible repeat (first | apply Kd.R_alloc | apply Kd.R_drewN | apply Kd.R_drew)); exact HO181.out⟩, ⟨by (with_reducible repeat (first | refine blk_drewN ?_ _ | refine blk_drew ?_ | refine blk_alloc ?_ _)); exact BK175.out⟩, ⟨by repeat (first | (with_reducible first | exact HB.out | apply below_alloc | apply pw_below_drewN | apply below_drew1 | refine below_set ?_ GE175.out) | exact HB.out)⟩⟩
   ·
    rw [if_neg c10] at H
    have c10b0 : (t179 == 0) = false := beq_eq_false_iff_ne.mpr c10
    have c10b1 : (t179 != 0) = true := bne_iff_ne.mpr c10
    have H' := Aside0.mk H
    clear H
    go_wp2
    go_meet
    case rel => exact ⟨_, (true), (by first | rfl | (simp; done) | (simp [*]; done)), H', ⟨by first | omega | exact Nat.le_refl _⟩, ⟨by (with_reducible repeat (first | apply Kd.R_alloc | apply Kd.R_drewN | apply Kd.R_drew)); exact HO181.out⟩, ⟨by (with_reducible repeat (first | refine blk_drewN ?_ _ | refine blk_drew ?_ | refine blk_alloc ?_ _)); exact BK175.out⟩, ⟨by repeat (first | (with_reducible first | exact HB.out | apply below_alloc | apply pw_below_drewN | apply below_drew1 | refine below_set ?_ GE175.out) | exact HB.out)⟩⟩
  ·
   rw [if_neg c9] at H
   have c9b0 : (t174 == 0) = false := beq_eq_false_iff_ne.mpr c9
   have c9b1 : (t174 != 0) = true := bne_iff_ne.mpr c9
   (first | rw [c9b0] | (simp only [i64_w, i32_w]; rw [c9b0]) | skip)
   have H' := Aside0.mk H
   clear H
   go_wp2
   go_meet
   case rel => exact ⟨_, (true), (by first | rfl | (simp; done) | (simp [*]; done)), H', ⟨by first | omega | exact Nat.le_refl _⟩, ⟨by (with_reducible repeat (first | apply Kd.R_alloc | apply Kd.R_drewN | apply Kd.R_drew)); exact HO181.out⟩, ⟨by (with_reducible repeat (first | refine blk_drewN ?_ _ | refine blk_drew ?_ | refine blk_alloc ?_ _)); exact BK175.out⟩, ⟨by repeat (first | (with_reducible first | exact HB.out | apply below_alloc | apply pw_below_drewN | apply below_drew1 | refine below_set ?_ GE175.out) | exact HB.out)⟩⟩
 case rest =>
  clear HC4
  try clear c1
  try clear p2
  try clear c3
  try clear c6
  try clear p6
  try clear c9
  try clear c9b0
  try clear c9b1
  try clear c10
  try clear c10b0
  try clear c10b1
  try clear hcz12_0
  try clear hcz12_1
  try clear hcz12_10
  try clear hcz12_2
  try clear hcz12_3
  try clear hcz12_4
  try clear hcz12_5
  try clear hcz12_6
  try clear hcz12_7
  try clear hcz12_8
  try clear hcz12_9
  try clear hcz7_0
  try clear hcz7_1
  try clear hcz7_10
  try clear hcz7_2
  try clear hcz7_3
  try clear hcz7_4
  try clear hcz7_5
  try clear hcz7_6
  try clear hcz7_7
  try clear hcz7_8
  try clear hcz7_9
  try clear hfz12_0
  try clear hfz12_1
  try clear hfz12_10
  try clear hfz12_2
  try clear hfz12_3
  try clear hfz12_4
  try clear hfz12_5
  try clear hfz12_6
  try clear hfz12_7
  try clear hfz12_8
  try clear hfz12_9
  try clear hfz7_0
  try clear hfz7_1
  try clear hfz7_10
  try clear hfz7_2
  try clear hfz7_3
  try clear hfz7_4
  try clear hfz7_5
  try clear hfz7_6
  try clear hfz7_7
  try clear hfz7_8
  try clear hfz7_9
  obtain ⟨kq, x39_3, rfl, HA, HJ3, HO_5, BK175, HB⟩ := hcut
  cases kq with
  | zero => exact absurd HA.out (by simp [excuse_maySix.j0])
  | succ kj3 =>
   have H := HA.out
   clear HA
   simp only [excuse_maySix.j0] at H
   by_cases c14 : x39_3 = true
   ·
    subst c14
    rw [if_pos rfl] at H
    obtain rfl := Option.some.inj H
    go_wp2
    go_ret
    exact ⟨by first | rfl | (simp [errW_none, errW_some] <;> rfl) | (simp [*, errW_none, errW_some] <;> rfl), by repeat (first | (with_reducible first | exact HB.out | apply below_alloc | apply pw_below_drewN | apply below_drew1 | refine below_set ?_ GE175.out) | exact HB.out)⟩
   ·
    replace c14 := Bool.eq_false_iff.mpr c14
    subst c14
    rw [if_neg (show ¬ (false = true) by decide)] at H
    have H' := Aside0.mk H
    clear H
    obtain ⟨Ao15, co15, eo15⟩ := Kd.R_slice HO_5.out
    subst eo15
    go_wp2
    go_loopg [42] kj3 (fun kq v42 w' => ∃ (x42_2 : Int), v42 = .int .i64 x42_2 ∧ Aside0 (excuse_maySix.l0 kq t177 t178 t176 (t176.length : Int) x42_2 t163 t164 t165 t166 t167 t168 t169 t170 t171 t172 t173 = some r) ∧ Aside0 (kq ≤ kj3) ∧ Aside0 (Kd.R k68 68 w' w.heap.size (fun _ => True) (.slice Ao15 t176.length co15) t176) ∧ Aside0 (w'.heap[gb175]? = some (.cells #[.int .i64 t163, .int .i64 t164, .int .i64 t165, .int .i64 t166, .bool t167, .int .u64 t168, .int .u64 t169, .bool t170, .int .u64 t171, .int .u64 t172, .string t173] 45 (0, 0))) ∧ Aside0 (Below w.heap.size w w'))
    case atStart => exact ⟨(0), (by first | rfl | (simp; done) | (simp [*]; done)), H', ⟨Nat.le_refl _⟩, ⟨by (with_reducible repeat (first | apply Kd.R_alloc | apply Kd.R_drewN | apply Kd.R_drew)); exact HO_5.out⟩, ⟨by (with_reducible repeat (first | refine blk_drewN ?_ _ | refine blk_drew ?_ | refine blk_alloc ?_ _)); exact BK175.out⟩, ⟨by repeat (first | (with_reducible first | exact HB.out | apply below_alloc | apply pw_below_drewN | apply below_drew1 | refine below_set ?_ GE175.out) | exact HB.out)⟩⟩
    case round =>
     clear H'
     try clear c1
     try clear p2
     try clear c3
     try clear c6
     try clear p6
     try clear c9
     try clear c9b0
     try clear c9b1
     try clear c10
     try clear c10b0
     try clear c10b1
     try clear c14
     try clear hcz12_0
     try clear hcz12_1
     try clear hcz12_10
     try clear hcz12_2
     try clear hcz12_3
     try clear hcz12_4
     try clear hcz12_5
     try clear hcz12_6
     try clear hcz12_7
     try clear hcz12_8
     try clear hcz12_9
     try clear hcz7_0
     try clear hcz7_1
     try clear hcz7_10
     try clear hcz7_2
     try clear hcz7_3
     try clear hcz7_4
     try clear hcz7_5
     try clear hcz7_6
     try clear hcz7_7
     try clear hcz7_8
     try clear hcz7_9
     try clear hfz12_0
     try clear hfz12_1
     try clear hfz12_10
     try clear hfz12_2
     try clear hfz12_3
     try clear hfz12_4
     try clear hfz12_5
     try clear hfz12_6
     try clear hfz12_7
     try clear hfz12_8
     try clear hfz12_9
     try clear hfz7_0
     try clear hfz7_1
     try clear hfz7_10
     try clear hfz7_2
     try clear hfz7_3
     try clear hfz7_4
     try clear hfz7_5
     try clear hfz7_6
     try clear hfz7_7
     try clear hfz7_8
     try clear hfz7_9
     try clear p2
     try clear p6
     obtain ⟨x42_2, rfl, HA, HK2, HO_40, BK175, HB⟩ := hrel
     cases gk with
     | zero => exact absurd HA.out (by simp [excuse_maySix.l0])
     | succ k2 =>
      have H := HA.out
      clear HA
      simp only [excuse_maySix.l0] at H
      by_cases c16 : x42_2 < (t176.length : Int)
      ·
       rw [if_pos c16] at H
       have c16b0 : decide (x42_2 < (t176.length : Int)) = true := decide_eq_true c16
       clear c16
       by_cases c17 : 0 ≤ x42_2
       ·
        rw [if_pos c17] at H
        have c17b0 : decide (0 ≤ x42_2) = true := decide_eq_true c17
        clear c17
        by_cases c18 : x42_2 < (t176.length : Int)
        ·
         rw [if_pos c18] at H
         have c18b0 : decide (x42_2 < (t176.length : Int)) = true := decide_eq_true c18
         clear c18
         by_cases c19 : ((rd_T68 t176 x42_2).f0) = 44
         ·
          rw [if_pos c19] at H
          have c19b0 : (((rd_T68 t176 x42_2).f0) == 44) = true := beq_iff_eq.mpr c19
          have c19b1 : (((rd_T68 t176 x42_2).f0) != 44) = false := bne_eq_false_iff_eq.mpr c19
          clear c19
          obtain ⟨ji20, hji20⟩ : ∃ j_ : Int, (wrap64 (((rd_T68 t176 x42_2).f1) + 2)) = j_ := ⟨_, rfl⟩
          replace H : (if 0 ≤ (ji20) then (if (ji20) < (t173.size : Int) then (if (bt t173 (ji20)) = 0 then (if 0 ≤ (wrap64 (((rd_T68 t176 x42_2).f1) + 3)) then (if (wrap64 (((rd_T68 t176 x42_2).f1) + 3)) < (t173.size : Int) then (if ((bt t173 (wrap64 (((rd_T68 t176 x42_2).f1) + 3))) / 8) = 0 then (excuse_maySix.l0 k2 t177 t178 t176 (t176.length : Int) (wrap64 (x42_2 + 1)) t163 t164 t165 t166 t167 t168 t169 t170 t171 t172 t173) else (some false)) else (none)) else (none)) else (some false)) else (none)) else (none)) = some r := by first | (rw [hji20] at H; exact H) | (simp only [hji20] at H ⊢; exact H)
          have hji20w : (IntKind.i64.wrap (((rd_T68 t176 x42_2).f1) + 2)) = ji20 := (i64_w _).trans hji20
          by_cases c21 : 0 ≤ (ji20)
          ·
           rw [if_pos c21] at H
           have c21b0 : decide (0 ≤ (ji20)) = true := decide_eq_true c21
           clear c21
           by_cases c22 : (ji20) < (t173.size : Int)
           ·
            rw [if_pos c22] at H
            have c22b0 : decide ((ji20) < (t173.size : Int)) = true := decide_eq_true c22
            clear c22
            by_cases c24 : (bt t173 (ji20)) = 0
            ·
             rw [if_pos c24] at H
             have c24b0 : ((bt t173 (ji20)) == 0) = true := beq_iff_eq.mpr c24
             have c24b1 : ((bt t173 (ji20)) != 0) = false := bne_eq_false_iff_eq.mpr c24
             clear c24
             obtain ⟨ji25, hji25⟩ : ∃ j_ : Int, (wrap64 (((rd_T68 t176 x42_2).f1) + 3)) = j_ := ⟨_, rfl⟩
             replace H : (if 0 ≤ (ji25) then (if (ji25) < (t173.size : Int) then (if ((bt t173 (ji25)) / 8) = 0 then (excuse_maySix.l0 k2 t177 t178 t176 (t176.length : Int) (wrap64 (x42_2 + 1)) t163 t164 t165 t166 t167 t168 t169 t170 t171 t172 t173) else (some false)) else (none)) else (none)) = some r := by first | (rw [hji25] at H; exact H) | (simp only [hji25] at H ⊢; exact H)
             have hji25w : (IntKind.i64.wrap (((rd_T68 t176 x42_2).f1) + 3)) = ji25 := (i64_w _).trans hji25
             by_cases c26 : 0 ≤ (ji25)
             ·
              rw [if_pos c26] at H
              have c26b0 : decide (0 ≤ (ji25)) = true := decide_eq_true c26
              clear c26
              by_cases c27 : (ji25) < (t173.size : Int)
              ·
               rw [if_pos c27] at H
               have c27b0 : decide ((ji25) < (t173.size : Int)) = true := decide_eq_true c27
               clear c27
               by_cases c29 : ((bt t173 (ji25)) / 8) = 0
               ·
                rw [if_pos c29] at H
                have c29b0 : (((bt t173 (ji25)) / 8) == 0) = true := beq_iff_eq.mpr c29
                have c29b1 : (((bt t173 (ji25)) / 8) != 0) = false := bne_eq_false_iff_eq.mpr c29
                clear c29
                have H' := Aside0.mk H
                clear H
                have p183 : 0 ≤ (x42_2 : Int) := of_decide_eq_true (by first | (with_reducible assumption) | assumption)
                have q183 : x42_2 < (t176.length : Int) := of_decide_eq_true (by first | (with_reducible assumption) | assumption)
                obtain ⟨ad183, e183, hx183_0, hx183_1, hx183_2⟩ := at_T68 (Kd.R_reads' HO_40.out).2.2 x42_2 p183 q183
                cases e183
                replace p183 := eq_true p183
                replace q183 := eq_true q183
                go_wp2_with (first | ((with_reducible refine gate_dst (N := 10) rfl ?_); refine sh_E 10 68 #[.int .i64 0, .int .i64 0, .int .i64 0] ?_; intro gb184 hg w30 hbox hb; have n0_ := Aside0.mk (Kd.R_below (Kd.R_elderB (by (with_reducible repeat (first | apply Kd.R_alloc | apply Kd.R_drewN | apply Kd.R_drew)); exact HO_40.out) gb184 (Nat.le_of_eq hg.symm)) hb); have n1_ := sh_L BK175 hb; have n2_ := sh_S HB hb; have n3_ := Aside0.mk hbox; have n4_ := sh_G HB hg; have n5_ := sh_G HB hg; have n6_ := sh_N BK175 hg; have n7_ := sh_M BK175 hg; clear HO_40; clear BK175; clear HB; have HO_40 := n0_; have BK175 := n1_; have HB := n2_; have BK184 := n3_; have GW184 := n4_; have GE184 := n5_; have NB175_184 := n6_; have NB184_175 := n7_; clear n0_ n1_ n2_ n3_ n4_ n5_ n6_ n7_; clear hb hbox hg; have hnb31 := NB184_175.out; have hnc31 := NB175_184.out; obtain ⟨hcz32_0, hcz32_1, hcz32_2⟩ := MBlk.c3 BK184.out; obtain ⟨hfz32_0, hfz32_1, hfz32_2⟩ := MBlk.f3 BK184.out; obtain ⟨hcz33_0, hcz33_1, hcz33_2, hcz33_3, hcz33_4, hcz33_5, hcz33_6, hcz33_7, hcz33_8, hcz33_9, hcz33_10⟩ := MBlk.c11 BK175.out; obtain ⟨hfz33_0, hfz33_1, hfz33_2, hfz33_3, hfz33_4, hfz33_5, hfz33_6, hfz33_7, hfz33_8, hfz33_9, hfz33_10⟩ := MBlk.f11 BK175.out; have p23 : 0 ≤ ((ji20) : Int) := of_decide_eq_true (by first | (with_reducible assumption) | assumption); have q23 : (ji20) < (t173.size : Int) := of_decide_eq_true (by first | (with_reducible assumption) | assumption); have hx23 := bt_at t173 (ji20); replace p23 := eq_true p23; replace q23 := eq_true q23; have p28 : 0 ≤ ((ji25) : Int) := of_decide_eq_true (by first | (with_reducible assumption) | assumption); have q28 : (ji25) < (t173.size : Int) := of_decide_eq_true (by first | (with_reducible assumption) | assumption); have hx28 := bt_at t173 (ji25); replace p28 := eq_true p28; replace q28 := eq_true q28))
                go_roundg k2
                case measure => have := HJ3.out; have := HK2.out; omega
                case rel => exact ⟨(wrap64 (x42_2 + 1)), (by first | rfl | (simp; done) | (simp [*]; done)), H', ⟨by have := HJ3.out; have := HK2.out; omega⟩, ⟨by (with_reducible repeat (first | apply Kd.R_alloc | apply Kd.R_drewN | apply Kd.R_drew)); exact Kd.R_mono (Kd.R_far (p := ⟨gb184, 2, none⟩) (Kd.R_far (p := ⟨gb184, 1, none⟩) (Kd.R_far (p := ⟨gb184, 0, none⟩) (Kd.R_mono HO_40.out (fun k_ hk => (⟨hk, hk.2⟩ : _ ∧ k_ ≠ gb184))) (fun _ hk => hk.2) (.int .i64 ((rd_T68 t176 x42_2).f0))) (fun _ hk => hk.2) (.int .i64 ((rd_T68 t176 x42_2).f1))) (fun _ hk => hk.2) (.int .i64 ((rd_T68 t176 x42_2).f2))) (fun _ hk => trivial)⟩, ⟨by (with_reducible repeat (first | refine blk_drewN ?_ _ | refine blk_drew ?_ | refine blk_alloc ?_ _)); refine blk_far ?_ NB175_184.out _; (with_reducible repeat (first | refine blk_drewN ?_ _ | refine blk_drew ?_ | refine blk_alloc ?_ _)); refine blk_far ?_ NB175_184.out _; (with_reducible repeat (first | refine blk_drewN ?_ _ | refine blk_drew ?_ | refine blk_alloc ?_ _)); refine blk_far ?_ NB175_184.out _; (with_reducible repeat (first | refine blk_drewN ?_ _ | refine blk_drew ?_ | refine blk_alloc ?_ _)); exact BK175.out⟩, ⟨by repeat (first | (with_reducible first | exact HB.out | apply below_alloc | apply pw_below_drewN | apply below_drew1 | refine below_set ?_ GE175.out | refine below_set ?_ GE184.out) | exact HB.out)⟩⟩
               ·
                rw [if_neg c29] at H
                have c29b0 : (((bt t173 (ji25)) / 8) == 0) = false := beq_eq_false_iff_ne.mpr c29
                have c29b1 : (((bt t173 (ji25)) / 8) != 0) = true := bne_iff_ne.mpr c29
                obtain rfl := Option.some.inj H
                have p183 : 0 ≤ (x42_2 : Int) := of_decide_eq_true (by first | (with_reducible assumption) | assumption)
                have q183 : x42_2 < (t176.length : Int) := of_decide_eq_true (by first | (with_reducible assumption) | assumption)
                obtain ⟨ad183, e183, hx183_0, hx183_1, hx183_2⟩ := at_T68 (Kd.R_reads' HO_40.out).2.2 x42_2 p183 q183
                cases e183
                replace p183 := eq_true p183
                replace q183 := eq_true q183
                go_wp2_with (first | ((with_reducible refine gate_dst (N := 10) rfl ?_); refine sh_E 10 68 #[.int .i64 0, .int .i64 0, .int .i64 0] ?_; intro gb184 hg w34 hbox hb; have n0_ := Aside0.mk (Kd.R_below (Kd.R_elderB (by (with_reducible repeat (first | apply Kd.R_alloc | apply Kd.R_drewN | apply Kd.R_drew)); exact HO_40.out) gb184 (Nat.le_of_eq hg.symm)) hb); have n1_ := sh_L BK175 hb; have n2_ := sh_S HB hb; have n3_ := Aside0.mk hbox; have n4_ := sh_G HB hg; have n5_ := sh_G HB hg; have n6_ := sh_N BK175 hg; have n7_ := sh_M BK175 hg; clear HO_40; clear BK175; clear HB; have HO_40 := n0_; have BK175 := n1_; have HB := n2_; have BK184 := n3_; have GW184 := n4_; have GE184 := n5_; have NB175_184 := n6_; have NB184_175 := n7_; clear n0_ n1_ n2_ n3_ n4_ n5_ n6_ n7_; clear hb hbox hg; have hnb35 := NB184_175.out; have hnc35 := NB175_184.out; obtain ⟨hcz36_0, hcz36_1, hcz36_2⟩ := MBlk.c3 BK184.out; obtain ⟨hfz36_0, hfz36_1, hfz36_2⟩ := MBlk.f3 BK184.out; obtain ⟨hcz37_0, hcz37_1, hcz37_2, hcz37_3, hcz37_4, hcz37_5, hcz37_6, hcz37_7, hcz37_8, hcz37_9, hcz37_10⟩ := MBlk.c11 BK175.out; obtain ⟨hfz37_0, hfz37_1, hfz37_2, hfz37_3, hfz37_4, hfz37_5, hfz37_6, hfz37_7, hfz37_8, hfz37_9, hfz37_10⟩ := MBlk.f11 BK175.out; have p23 : 0 ≤ ((ji20) : Int) := of_decide_eq_true (by first | (with_reducible assumption) | assumption); have q23 : (ji20) < (t173.size : Int) := of_decide_eq_true (by first | (with_reducible assumption) | assumption); have hx23 := bt_at t173 (ji20); replace p23 := eq_true p23; replace q23 := eq_true q23; have p28 : 0 ≤ ((ji25) : Int) := of_decide_eq_true (by first | (with_reducible assumption) | assumption); have q28 : (ji25) < (t173.size : Int) := of_decide_eq_true (by first | (with_reducible assumption) | assumption); have hx28 := bt_at t173 (ji25); replace p28 := eq_true p28; replace q28 := eq_true q28))
                go_ret
                exact ⟨by first | rfl | (simp [errW_none, errW_some] <;> rfl) | (simp only [← hji20, ← hji25]; first | rfl | (simp [errW_none, errW_some] <;> rfl)) | (simp [*, errW_none, errW_some] <;> rfl), by repeat (first | (with_reducible first | exact HB.out | apply below_alloc | apply pw_below_drewN | apply below_drew1 | refine below_set ?_ GE175.out | refine below_set ?_ GE184.out) | exact HB.out)⟩
              ·
               rw [if_neg c27] at H
               exact absurd H (by simp)
             ·
              rw [if_neg c26] at H
              exact absurd H (by simp)
            ·
             rw [if_neg c24] at H
             have c24b0 : ((bt t173 (ji20)) == 0) = false := beq_eq_false_iff_ne.mpr c24
             have c24b1 : ((bt t173 (ji20)) != 0) = true := bne_iff_ne.mpr c24
             obtain rfl := Option.some.inj H
             have p183 : 0 ≤ (x42_2 : Int) := of_decide_eq_true (by first | (with_reducible assumption) | assumption)
             have q183 : x42_2 < (t176.length : Int) := of_decide_eq_true (by first | (with_reducible assumption) | assumption)
             obtain ⟨ad183, e183, hx183_0, hx183_1, hx183_2⟩ := at_T68 (Kd.R_reads' HO_40.out).2.2 x42_2 p183 q183
             cases e183
             replace p183 := eq_true p183
             replace q183 := eq_true q183
             go_wp2_with (first | ((with_reducible refine gate_dst (N := 10) rfl ?_); refine sh_E 10 68 #[.int .i64 0, .int .i64 0, .int .i64 0] ?_; intro gb184 hg w38 hbox hb; have n0_ := Aside0.mk (Kd.R_below (Kd.R_elderB (by (with_reducible repeat (first | apply Kd.R_alloc | apply Kd.R_drewN | apply Kd.R_drew)); exact HO_40.out) gb184 (Nat.le_of_eq hg.symm)) hb); have n1_ := sh_L BK175 hb; have n2_ := sh_S HB hb; have n3_ := Aside0.mk hbox; have n4_ := sh_G HB hg; have n5_ := sh_G HB hg; have n6_ := sh_N BK175 hg; have n7_ := sh_M BK175 hg; clear HO_40; clear BK175; clear HB; have HO_40 := n0_; have BK175 := n1_; have HB := n2_; have BK184 := n3_; have GW184 := n4_; have GE184 := n5_; have NB175_184 := n6_; have NB184_175 := n7_; clear n0_ n1_ n2_ n3_ n4_ n5_ n6_ n7_; clear hb hbox hg; have hnb39 := NB184_175.out; have hnc39 := NB175_184.out; obtain ⟨hcz40_0, hcz40_1, hcz40_2⟩ := MBlk.c3 BK184.out; obtain ⟨hfz40_0, hfz40_1, hfz40_2⟩ := MBlk.f3 BK184.out; obtain ⟨hcz41_0, hcz41_1, hcz41_2, hcz41_3, hcz41_4, hcz41_5, hcz41_6, hcz41_7, hcz41_8, hcz41_9, hcz41_10⟩ := MBlk.c11 BK175.out; obtain ⟨hfz41_0, hfz41_1, hfz41_2, hfz41_3, hfz41_4, hfz41_5, hfz41_6, hfz41_7, hfz41_8, hfz41_9, hfz41_10⟩ := MBlk.f11 BK175.out; have p23 : 0 ≤ ((ji20) : Int) := of_decide_eq_true (by first | (with_reducible assumption) | assumption); have q23 : (ji20) < (t173.size : Int) := of_decide_eq_true (by first | (with_reducible assumption) | assumption); have hx23 := bt_at t173 (ji20); replace p23 := eq_true p23; replace q23 := eq_true q23))
             go_ret
             exact ⟨by first | rfl | (simp [errW_none, errW_some] <;> rfl) | (simp only [← hji20]; first | rfl | (simp [errW_none, errW_some] <;> rfl)) | (simp [*, errW_none, errW_some] <;> rfl), by repeat (first | (with_reducible first | exact HB.out | apply below_alloc | apply pw_below_drewN | apply below_drew1 | refine below_set ?_ GE175.out | refine below_set ?_ GE184.out) | exact HB.out)⟩
           ·
            rw [if_neg c22] at H
            exact absurd H (by simp)
          ·
           rw [if_neg c21] at H
           exact absurd H (by simp)
         ·
          rw [if_neg c19] at H
          have c19b0 : (((rd_T68 t176 x42_2).f0) == 44) = false := beq_eq_false_iff_ne.mpr c19
          have c19b1 : (((rd_T68 t176 x42_2).f0) != 44) = true := bne_iff_ne.mpr c19
          have H' := Aside0.mk H
          clear H
          have p183 : 0 ≤ (x42_2 : Int) := of_decide_eq_true (by first | (with_reducible assumption) | assumption)
          have q183 : x42_2 < (t176.length : Int) := of_decide_eq_true (by first | (with_reducible assumption) | assumption)
          obtain ⟨ad183, e183, hx183_0, hx183_1, hx183_2⟩ := at_T68 (Kd.R_reads' HO_40.out).2.2 x42_2 p183 q183
          cases e183
          replace p183 := eq_true p183
          replace q183 := eq_true q183
          go_wp2_with (first | ((with_reducible refine gate_dst (N := 10) rfl ?_); refine sh_E 10 68 #[.int .i64 0, .int .i64 0, .int .i64 0] ?_; intro gb184 hg w42 hbox hb; have n0_ := Aside0.mk (Kd.R_below (Kd.R_elderB (by (with_reducible repeat (first | apply Kd.R_alloc | apply Kd.R_drewN | apply Kd.R_drew)); exact HO_40.out) gb184 (Nat.le_of_eq hg.symm)) hb); have n1_ := sh_L BK175 hb; have n2_ := sh_S HB hb; have n3_ := Aside0.mk hbox; have n4_ := sh_G HB hg; have n5_ := sh_G HB hg; have n6_ := sh_N BK175 hg; have n7_ := sh_M BK175 hg; clear HO_40; clear BK175; clear HB; have HO_40 := n0_; have BK175 := n1_; have HB := n2_; have BK184 := n3_; have GW184 := n4_; have GE184 := n5_; have NB175_184 := n6_; have NB184_175 := n7_; clear n0_ n1_ n2_ n3_ n4_ n5_ n6_ n7_; clear hb hbox hg; have hnb43 := NB184_175.out; have hnc43 := NB175_184.out; obtain ⟨hcz44_0, hcz44_1, hcz44_2⟩ := MBlk.c3 BK184.out; obtain ⟨hfz44_0, hfz44_1, hfz44_2⟩ := MBlk.f3 BK184.out))
          go_roundg k2
          case measure => have := HJ3.out; have := HK2.out; omega
          case rel => exact ⟨(wrap64 (x42_2 + 1)), (by first | rfl | (simp; done) | (simp [*]; done)), H', ⟨by have := HJ3.out; have := HK2.out; omega⟩, ⟨by (with_reducible repeat (first | apply Kd.R_alloc | apply Kd.R_drewN | apply Kd.R_drew)); exact Kd.R_mono (Kd.R_far (p := ⟨gb184, 2, none⟩) (Kd.R_far (p := ⟨gb184, 1, none⟩) (Kd.R_far (p := ⟨gb184, 0, none⟩) (Kd.R_mono HO_40.out (fun k_ hk => (⟨hk, hk.2⟩ : _ ∧ k_ ≠ gb184))) (fun _ hk => hk.2) (.int .i64 ((rd_T68 t176 x42_2).f0))) (fun _ hk => hk.2) (.int .i64 ((rd_T68 t176 x42_2).f1))) (fun _ hk => hk.2) (.int .i64 ((rd_T68 t176 x42_2).f2))) (fun _ hk => trivial)⟩, ⟨by (with_reducible repeat (first | refine blk_drewN ?_ _ | refine blk_drew ?_ | refine blk_alloc ?_ _)); refine blk_far ?_ NB175_184.out _; (with_reducible repeat (first | refine blk_drewN ?_ _ | refine blk_drew ?_ | refine blk_alloc ?_ _)); refine blk_far ?_ NB175_184.out _; (with_reducible repeat (first | refine blk_drewN ?_ _ | refine blk_drew ?_ | refine blk_alloc ?_ _)); refine blk_far ?_ NB175_184.out _; (with_reducible repeat (first | refine blk_drewN ?_ _ | refine blk_drew ?_ | refine blk_alloc ?_ _)); exact BK175.out⟩, ⟨by repeat (first | (with_reducible first | exact HB.out | apply below_alloc | apply pw_below_drewN | apply below_drew1 | refine below_set ?_ GE175.out | refine below_set ?_ GE184.out) | exact HB.out)⟩⟩
        ·
         rw [if_neg c18] at H
         exact absurd H (by simp)
       ·
        rw [if_neg c17] at H
        exact absurd H (by simp)
      ·
       rw [if_neg c16] at H
       have c16b0 : decide (x42_2 < (t176.length : Int)) = false := decide_eq_false c16
       clear c16
       by_cases c45 : t177 = 58
       ·
        rw [if_pos c45] at H
        have c45b0 : (t177 == 58) = true := beq_iff_eq.mpr c45
        have c45b1 : (t177 != 58) = false := bne_eq_false_iff_eq.mpr c45
        clear c45
        by_cases c46 : 0 ≤ t178
        ·
         rw [if_pos c46] at H
         have c46b0 := eq_true c46
         have c46b1 : decide (0 ≤ t178) = true := decide_eq_true c46
         clear c46
         by_cases c47 : t178 ≤ (t173.size : Int)
         ·
          rw [if_pos c47] at H
          have c47b0 := eq_true c47
          have c47b1 : decide (t178 ≤ (t173.size : Int)) = true := decide_eq_true c47
          clear c47
          replace H := Option.bind_eq_some_iff.mp H
          obtain ⟨t185, A480, H⟩ := H
          have A48 := Aside0.mk A480
          clear A480
          obtain rfl := Option.some.inj H
          have hcz49_0 : wr.cell? ⟨gb175, 0, none⟩ = some (.int .i64 t163) := (blk_cell BK175.out 0).trans rfl
          have hcz49_1 : wr.cell? ⟨gb175, 1, none⟩ = some (.int .i64 t164) := (blk_cell BK175.out 1).trans rfl
          have hcz49_2 : wr.cell? ⟨gb175, 2, none⟩ = some (.int .i64 t165) := (blk_cell BK175.out 2).trans rfl
          have hcz49_3 : wr.cell? ⟨gb175, 3, none⟩ = some (.int .i64 t166) := (blk_cell BK175.out 3).trans rfl
          have hcz49_4 : wr.cell? ⟨gb175, 4, none⟩ = some (.bool t167) := (blk_cell BK175.out 4).trans rfl
          have hcz49_5 : wr.cell? ⟨gb175, 5, none⟩ = some (.int .u64 t168) := (blk_cell BK175.out 5).trans rfl
          have hcz49_6 : wr.cell? ⟨gb175, 6, none⟩ = some (.int .u64 t169) := (blk_cell BK175.out 6).trans rfl
          have hcz49_7 : wr.cell? ⟨gb175, 7, none⟩ = some (.bool t170) := (blk_cell BK175.out 7).trans rfl
          have hcz49_8 : wr.cell? ⟨gb175, 8, none⟩ = some (.int .u64 t171) := (blk_cell BK175.out 8).trans rfl
          have hcz49_9 : wr.cell? ⟨gb175, 9, none⟩ = some (.int .u64 t172) := (blk_cell BK175.out 9).trans rfl
          have hcz49_10 : wr.cell? ⟨gb175, 10, none⟩ = some (.string t173) := (blk_cell BK175.out 10).trans rfl
          have hfz49_0 := blk_frozen BK175.out 0
          have hfz49_1 := blk_frozen BK175.out 1
          have hfz49_2 := blk_frozen BK175.out 2
          have hfz49_3 := blk_frozen BK175.out 3
          have hfz49_4 := blk_frozen BK175.out 4
          have hfz49_5 := blk_frozen BK175.out 5
          have hfz49_6 := blk_frozen BK175.out 6
          have hfz49_7 := blk_frozen BK175.out 7
          have hfz49_8 := blk_frozen BK175.out 8
          have hfz49_9 := blk_frozen BK175.out 9
          have hfz49_10 := blk_frozen BK175.out 10
          go_wp2_with (first | (go_at_call 69; (with_reducible refine (excuse_isError.calls true (t173.extract (t178 : Int).toNat t173.size) t185 _ A48.out).mono ?_); rintro e w50 ⟨rfl, hb⟩; have n0_ := Aside0.mk (Kd.R_below (by (with_reducible repeat (first | apply Kd.R_alloc | apply Kd.R_drewN | apply Kd.R_drew)); exact HO_40.out) hb); have n1_ := sh_L BK175 hb; have n2_ := sh_S HB hb; clear HO_40; clear BK175; clear HB; have HO_40 := n0_; have BK175 := n1_; have HB := n2_; clear n0_ n1_ n2_; (try clear hb); (try clear hb2); (try clear hk); (try clear hi)))
          go_ret
          exact ⟨by first | rfl | (simp [errW_none, errW_some] <;> rfl) | (simp [*, errW_none, errW_some] <;> rfl), by repeat (first | (with_reducible first | exact HB.out | apply below_alloc | apply pw_below_drewN | apply below_drew1 | refine below_set ?_ GE175.out) | exact HB.out)⟩
         ·
          rw [if_neg c47] at H
          exact absurd H (by simp)
        ·
         rw [if_neg c46] at H
         exact absurd H (by simp)
       ·
        rw [if_neg c45] at H
        have c45b0 : (t177 == 58) = false := beq_eq_false_iff_ne.mpr c45
        have c45b1 : (t177 != 58) = true := bne_iff_ne.mpr c45
        obtain rfl := Option.some.inj H
        go_wp2
        go_ret
        exact ⟨by first | rfl | (simp [errW_none, errW_some] <;> rfl) | (simp [*, errW_none, errW_some] <;> rfl), by repeat (first | (with_reducible first | exact HB.out | apply below_alloc | apply pw_below_drewN | apply below_drew1 | refine below_set ?_ GE175.out) | exact HB.out)⟩

/-! ### ip4_heads: function 49 (by hand) -/
/-- How many bytes a header has, as its first byte says. -/
def ip4_heads.hd (s : ByteArray) : Int := 4 * (bt s 0 - 64)
/-- How many bytes a packet has, as it says. -/
def ip4_heads.wh (s : ByteArray) : Int := Go.bits .or .i64 (bt s 2 * 256) (bt s 3)
def ip4_heads.f (k : Nat) (s : ByteArray) : Option (Int × Int × Int) :=
 if (s.size : Int) < 20 then some (0, 0, 51) else if ip4_heads.hd s < 20 ∨ bt s 0 > 79 then some (0, 0, 50) else if (s.size : Int) < ip4_heads.hd s then some (0, 0, 51) else
 (tally_Sum.f k [bytesOf (s.extract 0 (ip4_heads.hd s).toNat)]).bind fun t => if ¬ t = 65535 then some (0, 0, 52) else
 if ¬ (0 ≤ ip4_heads.wh s ∧ ip4_heads.wh s ≤ 65535) then none else
 if ip4_heads.wh s < ip4_heads.hd s ∨ ¬ Go.bits .and .u8 (bt s 6) 128 = 0 then some (0, 0, 50) else if (s.size : Int) < ip4_heads.wh s then some (0, 0, 51) else some (ip4_heads.hd s, ip4_heads.wh s, 0)
set_option maxHeartbeats 2000000 in
set_option maxRecDepth 100000 in
theorem ip4_heads.short (s : ByteArray) (w : World) (h : (s.size : Int) < 20) :
  Calls Tryd.prog 49 #[.string s] w fun e w' => e = .returned (.tuple #[.int .i64 0, .int .i64 0, .int .i64 51]) ∧ Below w.heap.size w w' := by
 have HB := Aside0.mk (Below.refl w.heap.size w)
 go_enter Tryd.func49, Tryd.ntmps49
 go_wp2_with fail
 go_ret3
 exact ⟨rfl, (sh_B HB)⟩
set_option maxHeartbeats 2000000 in
set_option maxRecDepth 100000 in
theorem ip4_heads.form (s : ByteArray) (w : World) (h : 20 ≤ (s.size : Int)) (h2 : ip4_heads.hd s < 20 ∨ bt s 0 > 79) :
  Calls Tryd.prog 49 #[.string s] w fun e w' => e = .returned (.tuple #[.int .i64 0, .int .i64 0, .int .i64 50]) ∧ Below w.heap.size w w' := by
 have HB := Aside0.mk (Below.refl w.heap.size w)
 have hx0 : ∀ h : 0 < s.size, ((s[0]'h).toNat : Int) = bt s 0 := bt_at s 0
 have r0 := (bt_range s 0).1; have r1 := (bt_range s 0).2
 have hq0 : 0 < s.size := by omega
 have hi0 : ((0 : Int) < (s.size : Int)) = True := eq_true (by omega)
 unfold ip4_heads.hd at h2
 by_cases c : 4 * (bt s 0 - 64) < 20
 · clear h2
   go_enter Tryd.func49, Tryd.ntmps49
   go_wp2_with fail
   go_ret3
   exact ⟨rfl, (sh_B HB)⟩
 · have c2 : 79 < bt s 0 := by omega
   clear h2
   go_enter Tryd.func49, Tryd.ntmps49
   go_wp2_with fail
   go_ret3
   exact ⟨rfl, (sh_B HB)⟩
set_option maxHeartbeats 2000000 in
set_option maxRecDepth 100000 in
theorem ip4_heads.short2 (s : ByteArray) (w : World) (h : 20 ≤ (s.size : Int)) (h2 : ¬ (ip4_heads.hd s < 20 ∨ bt s 0 > 79)) (h3 : (s.size : Int) < ip4_heads.hd s) :
  Calls Tryd.prog 49 #[.string s] w fun e w' => e = .returned (.tuple #[.int .i64 0, .int .i64 0, .int .i64 51]) ∧ Below w.heap.size w w' := by
 have HB := Aside0.mk (Below.refl w.heap.size w)
 have hx0 : ∀ h : 0 < s.size, ((s[0]'h).toNat : Int) = bt s 0 := bt_at s 0
 have r0 := (bt_range s 0).1; have r1 := (bt_range s 0).2
 have hq0 : 0 < s.size := by omega
 have hi0 : ((0 : Int) < (s.size : Int)) = True := eq_true (by omega)
 unfold ip4_heads.hd at h2 h3
 have c : ¬ 4 * (bt s 0 - 64) < 20 := by omega
 have c2 : ¬ 79 < bt s 0 := by omega
 clear h2
 go_enter Tryd.func49, Tryd.ntmps49
 go_wp2_with fail
 go_ret3
 exact ⟨rfl, (sh_B HB)⟩
set_option maxHeartbeats 2000000 in
set_option maxRecDepth 100000 in
theorem ip4_heads.bad (k : Nat) (s : ByteArray) (t : Int) (hd : Nat) (w : World) (h1 : ip4_heads.hd s = (hd : Int)) (h2 : 20 ≤ hd) (h3 : bt s 0 ≤ 79) (h4 : hd ≤ s.size) (ht : tally_Sum.f k [bytesOf (s.extract 0 hd)] = some t) (h5 : ¬ t = 65535) :
  Calls Tryd.prog 49 #[.string s] w fun e w' => e = .returned (.tuple #[.int .i64 0, .int .i64 0, .int .i64 52]) ∧ Below w.heap.size w w' := by
 have HB := Aside0.mk (Below.refl w.heap.size w)
 have hx0 : ∀ h : 0 < s.size, ((s[0]'h).toNat : Int) = bt s 0 := bt_at s 0
 have hx2 : ∀ h : 2 < s.size, ((s[2]'h).toNat : Int) = bt s 2 := bt_at s 2
 have hx3 : ∀ h : 3 < s.size, ((s[3]'h).toNat : Int) = bt s 3 := bt_at s 3
 have hx6 : ∀ h : 6 < s.size, ((s[6]'h).toNat : Int) = bt s 6 := bt_at s 6
 have r0 := (bt_range s 0).1; have r1 := (bt_range s 0).2
 have r2 := (bt_range s 2).1; have r3 := (bt_range s 2).2
 have r4 := (bt_range s 3).1; have r5 := (bt_range s 3).2
 have r6 := (bt_range s 6).1; have r7 := (bt_range s 6).2
 have HT := Aside0.mk ht
 have HSZ := Aside0.mk (show (s.extract 0 hd).size = hd by simp; omega)
 have hm : min hd s.size = hd := by omega
 have hq0 : 0 < s.size := by omega
 have hq2 : 2 < s.size := by omega
 have hq3 : 3 < s.size := by omega
 have hq6 : 6 < s.size := by omega
 have hi0 : ((0 : Int) < (s.size : Int)) = True := eq_true (by omega)
 have hi2 : ((2 : Int) < (s.size : Int)) = True := eq_true (by omega)
 have hi3 : ((3 : Int) < (s.size : Int)) = True := eq_true (by omega)
 have hi6 : ((6 : Int) < (s.size : Int)) = True := eq_true (by omega)
 have hd0 : (0 : Int) ≤ (hd : Int) := by omega
 have hd1 : (hd : Int) ≤ (s.size : Int) := by omega
 have hd2 : ¬ (hd : Int) < 20 := by omega
 have hd3 : ¬ 79 < bt s 0 := by omega
 have hd4 : ¬ (s.size : Int) < (hd : Int) := by omega
 have hd5 : ¬ (s.size : Int) < 20 := by omega
 have hdd : hd ≤ 1000 := by unfold ip4_heads.hd at h1; omega
 have t5 : (t != 65535) = true := by simpa using h5
 unfold ip4_heads.hd at h1
 clear ht h2
 have kb := fun s W => print_bytes (P := Tryd.prog) 9 70 5 Tryd.underlying9 Tryd.underlying70 Tryd.underlying5 s W
 go_enter Tryd.func49, Tryd.ntmps49
 go_wp2_with fail
 have hC := MStr.C_bytes w 5 (s.extract 0 hd) (by rw [HSZ.out]; omega)
 rw [HSZ.out] at hC
 refine (tally_Sum.calls k (some _) 1 [bytesOf (s.extract 0 hd)] t _ (MStr.C_varN hC (grownCap_ge _ _ _ _) rfl) (Nat.le_refl _) HT.out).mono ?_
 rintro e w7 ⟨rfl, ⟨nd, rfl⟩⟩
 clear hC kb
 have HB2 := Aside0.mk (show Below w.heap.size w (Lib.bytesWorld w 5 (s.extract 0 hd)) from bytes_below (Below.refl _ _) (Nat.le_refl _) _ _)
 go_wp2_with fail
 go_ret3
 exact ⟨rfl, (sh_B HB2)⟩
set_option maxHeartbeats 2000000 in
set_option maxRecDepth 100000 in
theorem ip4_heads.form1 (k : Nat) (s : ByteArray) (t : Int) (hd wh : Nat) (w : World) (h1 : ip4_heads.hd s = (hd : Int)) (h2 : 20 ≤ hd) (h3 : bt s 0 ≤ 79) (h4 : hd ≤ s.size) (ht : tally_Sum.f k [bytesOf (s.extract 0 hd)] = some t) (hw : ip4_heads.wh s = (wh : Int)) (hw2 : wh ≤ 65535) (h5 : t = 65535) (h6 : (wh : Int) < (hd : Int)) :
  Calls Tryd.prog 49 #[.string s] w fun e w' => e = .returned (.tuple #[.int .i64 0, .int .i64 0, .int .i64 50]) ∧ Below w.heap.size w w' := by
 have HB := Aside0.mk (Below.refl w.heap.size w)
 have hx0 : ∀ h : 0 < s.size, ((s[0]'h).toNat : Int) = bt s 0 := bt_at s 0
 have hx2 : ∀ h : 2 < s.size, ((s[2]'h).toNat : Int) = bt s 2 := bt_at s 2
 have hx3 : ∀ h : 3 < s.size, ((s[3]'h).toNat : Int) = bt s 3 := bt_at s 3
 have hx6 : ∀ h : 6 < s.size, ((s[6]'h).toNat : Int) = bt s 6 := bt_at s 6
 have r0 := (bt_range s 0).1; have r1 := (bt_range s 0).2
 have r2 := (bt_range s 2).1; have r3 := (bt_range s 2).2
 have r4 := (bt_range s 3).1; have r5 := (bt_range s 3).2
 have r6 := (bt_range s 6).1; have r7 := (bt_range s 6).2
 have HT := Aside0.mk ht
 have HSZ := Aside0.mk (show (s.extract 0 hd).size = hd by simp; omega)
 have hm : min hd s.size = hd := by omega
 have hq0 : 0 < s.size := by omega
 have hq2 : 2 < s.size := by omega
 have hq3 : 3 < s.size := by omega
 have hq6 : 6 < s.size := by omega
 have hi0 : ((0 : Int) < (s.size : Int)) = True := eq_true (by omega)
 have hi2 : ((2 : Int) < (s.size : Int)) = True := eq_true (by omega)
 have hi3 : ((3 : Int) < (s.size : Int)) = True := eq_true (by omega)
 have hi6 : ((6 : Int) < (s.size : Int)) = True := eq_true (by omega)
 have hd0 : (0 : Int) ≤ (hd : Int) := by omega
 have hd1 : (hd : Int) ≤ (s.size : Int) := by omega
 have hd2 : ¬ (hd : Int) < 20 := by omega
 have hd3 : ¬ 79 < bt s 0 := by omega
 have hd4 : ¬ (s.size : Int) < (hd : Int) := by omega
 have hd5 : ¬ (s.size : Int) < 20 := by omega
 have hdd : hd ≤ 1000 := by unfold ip4_heads.hd at h1; omega
 have t5 : (t != 65535) = false := by simpa using h5
 have w0 : (0 : Int) ≤ (wh : Int) := by omega
 have w1 : (wh : Int) ≤ 65535 := by omega
 unfold ip4_heads.wh at hw
 unfold ip4_heads.hd at h1
 clear ht h2
 have kb := fun s W => print_bytes (P := Tryd.prog) 9 70 5 Tryd.underlying9 Tryd.underlying70 Tryd.underlying5 s W
 go_enter Tryd.func49, Tryd.ntmps49
 go_wp2_with fail
 have hC := MStr.C_bytes w 5 (s.extract 0 hd) (by rw [HSZ.out]; omega)
 rw [HSZ.out] at hC
 refine (tally_Sum.calls k (some _) 1 [bytesOf (s.extract 0 hd)] t _ (MStr.C_varN hC (grownCap_ge _ _ _ _) rfl) (Nat.le_refl _) HT.out).mono ?_
 rintro e w7 ⟨rfl, ⟨nd, rfl⟩⟩
 clear hC kb
 have HB2 := Aside0.mk (show Below w.heap.size w (Lib.bytesWorld w 5 (s.extract 0 hd)) from bytes_below (Below.refl _ _) (Nat.le_refl _) _ _)
 go_wp2_with fail
 go_quiet (fail)
 go_wp2_with fail
 go_ret3
 exact ⟨rfl, (sh_B HB2)⟩
set_option maxHeartbeats 2000000 in
set_option maxRecDepth 100000 in
theorem ip4_heads.form2 (k : Nat) (s : ByteArray) (t : Int) (hd wh : Nat) (w : World) (h1 : ip4_heads.hd s = (hd : Int)) (h2 : 20 ≤ hd) (h3 : bt s 0 ≤ 79) (h4 : hd ≤ s.size) (ht : tally_Sum.f k [bytesOf (s.extract 0 hd)] = some t) (hw : ip4_heads.wh s = (wh : Int)) (hw2 : wh ≤ 65535) (h5 : t = 65535) (h6 : ¬ (wh : Int) < (hd : Int)) (h7 : ¬ Go.bits .and .u8 (bt s 6) 128 = 0) :
  Calls Tryd.prog 49 #[.string s] w fun e w' => e = .returned (.tuple #[.int .i64 0, .int .i64 0, .int .i64 50]) ∧ Below w.heap.size w w' := by
 have HB := Aside0.mk (Below.refl w.heap.size w)
 have hx0 : ∀ h : 0 < s.size, ((s[0]'h).toNat : Int) = bt s 0 := bt_at s 0
 have hx2 : ∀ h : 2 < s.size, ((s[2]'h).toNat : Int) = bt s 2 := bt_at s 2
 have hx3 : ∀ h : 3 < s.size, ((s[3]'h).toNat : Int) = bt s 3 := bt_at s 3
 have hx6 : ∀ h : 6 < s.size, ((s[6]'h).toNat : Int) = bt s 6 := bt_at s 6
 have r0 := (bt_range s 0).1; have r1 := (bt_range s 0).2
 have r2 := (bt_range s 2).1; have r3 := (bt_range s 2).2
 have r4 := (bt_range s 3).1; have r5 := (bt_range s 3).2
 have r6 := (bt_range s 6).1; have r7 := (bt_range s 6).2
 have HT := Aside0.mk ht
 have HSZ := Aside0.mk (show (s.extract 0 hd).size = hd by simp; omega)
 have hm : min hd s.size = hd := by omega
 have hq0 : 0 < s.size := by omega
 have hq2 : 2 < s.size := by omega
 have hq3 : 3 < s.size := by omega
 have hq6 : 6 < s.size := by omega
 have hi0 : ((0 : Int) < (s.size : Int)) = True := eq_true (by omega)
 have hi2 : ((2 : Int) < (s.size : Int)) = True := eq_true (by omega)
 have hi3 : ((3 : Int) < (s.size : Int)) = True := eq_true (by omega)
 have hi6 : ((6 : Int) < (s.size : Int)) = True := eq_true (by omega)
 have hd0 : (0 : Int) ≤ (hd : Int) := by omega
 have hd1 : (hd : Int) ≤ (s.size : Int) := by omega
 have hd2 : ¬ (hd : Int) < 20 := by omega
 have hd3 : ¬ 79 < bt s 0 := by omega
 have hd4 : ¬ (s.size : Int) < (hd : Int) := by omega
 have hd5 : ¬ (s.size : Int) < 20 := by omega
 have hdd : hd ≤ 1000 := by unfold ip4_heads.hd at h1; omega
 have t5 : (t != 65535) = false := by simpa using h5
 have w0 : (0 : Int) ≤ (wh : Int) := by omega
 have w1 : (wh : Int) ≤ 65535 := by omega
 unfold ip4_heads.wh at hw
 have t7 : (Go.bits .and .u8 (bt s 6) 128 != 0) = true := by simpa using h7
 unfold ip4_heads.hd at h1
 clear ht h2
 have kb := fun s W => print_bytes (P := Tryd.prog) 9 70 5 Tryd.underlying9 Tryd.underlying70 Tryd.underlying5 s W
 go_enter Tryd.func49, Tryd.ntmps49
 go_wp2_with fail
 have hC := MStr.C_bytes w 5 (s.extract 0 hd) (by rw [HSZ.out]; omega)
 rw [HSZ.out] at hC
 refine (tally_Sum.calls k (some _) 1 [bytesOf (s.extract 0 hd)] t _ (MStr.C_varN hC (grownCap_ge _ _ _ _) rfl) (Nat.le_refl _) HT.out).mono ?_
 rintro e w7 ⟨rfl, ⟨nd, rfl⟩⟩
 clear hC kb
 have HB2 := Aside0.mk (show Below w.heap.size w (Lib.bytesWorld w 5 (s.extract 0 hd)) from bytes_below (Below.refl _ _) (Nat.le_refl _) _ _)
 go_wp2_with fail
 go_quiet (fail)
 go_wp2_with fail
 go_ret3
 exact ⟨rfl, (sh_B HB2)⟩
set_option maxHeartbeats 2000000 in
set_option maxRecDepth 100000 in
theorem ip4_heads.shortw (k : Nat) (s : ByteArray) (t : Int) (hd wh : Nat) (w : World) (h1 : ip4_heads.hd s = (hd : Int)) (h2 : 20 ≤ hd) (h3 : bt s 0 ≤ 79) (h4 : hd ≤ s.size) (ht : tally_Sum.f k [bytesOf (s.extract 0 hd)] = some t) (hw : ip4_heads.wh s = (wh : Int)) (hw2 : wh ≤ 65535) (h5 : t = 65535) (h6 : ¬ (wh : Int) < (hd : Int)) (h7 : Go.bits .and .u8 (bt s 6) 128 = 0) (h8 : (s.size : Int) < (wh : Int)) :
  Calls Tryd.prog 49 #[.string s] w fun e w' => e = .returned (.tuple #[.int .i64 0, .int .i64 0, .int .i64 51]) ∧ Below w.heap.size w w' := by
 have HB := Aside0.mk (Below.refl w.heap.size w)
 have hx0 : ∀ h : 0 < s.size, ((s[0]'h).toNat : Int) = bt s 0 := bt_at s 0
 have hx2 : ∀ h : 2 < s.size, ((s[2]'h).toNat : Int) = bt s 2 := bt_at s 2
 have hx3 : ∀ h : 3 < s.size, ((s[3]'h).toNat : Int) = bt s 3 := bt_at s 3
 have hx6 : ∀ h : 6 < s.size, ((s[6]'h).toNat : Int) = bt s 6 := bt_at s 6
 have r0 := (bt_range s 0).1; have r1 := (bt_range s 0).2
 have r2 := (bt_range s 2).1; have r3 := (bt_range s 2).2
 have r4 := (bt_range s 3).1; have r5 := (bt_range s 3).2
 have r6 := (bt_range s 6).1; have r7 := (bt_range s 6).2
 have HT := Aside0.mk ht
 have HSZ := Aside0.mk (show (s.extract 0 hd).size = hd by simp; omega)
 have hm : min hd s.size = hd := by omega
 have hq0 : 0 < s.size := by omega
 have hq2 : 2 < s.size := by omega
 have hq3 : 3 < s.size := by omega
 have hq6 : 6 < s.size := by omega
 have hi0 : ((0 : Int) < (s.size : Int)) = True := eq_true (by omega)
 have hi2 : ((2 : Int) < (s.size : Int)) = True := eq_true (by omega)
 have hi3 : ((3 : Int) < (s.size : Int)) = True := eq_true (by omega)
 have hi6 : ((6 : Int) < (s.size : Int)) = True := eq_true (by omega)
 have hd0 : (0 : Int) ≤ (hd : Int) := by omega
 have hd1 : (hd : Int) ≤ (s.size : Int) := by omega
 have hd2 : ¬ (hd : Int) < 20 := by omega
 have hd3 : ¬ 79 < bt s 0 := by omega
 have hd4 : ¬ (s.size : Int) < (hd : Int) := by omega
 have hd5 : ¬ (s.size : Int) < 20 := by omega
 have hdd : hd ≤ 1000 := by unfold ip4_heads.hd at h1; omega
 have t5 : (t != 65535) = false := by simpa using h5
 have w0 : (0 : Int) ≤ (wh : Int) := by omega
 have w1 : (wh : Int) ≤ 65535 := by omega
 unfold ip4_heads.wh at hw
 have t7 : (Go.bits .and .u8 (bt s 6) 128 != 0) = false := by simpa using h7
 unfold ip4_heads.hd at h1
 clear ht h2
 have kb := fun s W => print_bytes (P := Tryd.prog) 9 70 5 Tryd.underlying9 Tryd.underlying70 Tryd.underlying5 s W
 go_enter Tryd.func49, Tryd.ntmps49
 go_wp2_with fail
 have hC := MStr.C_bytes w 5 (s.extract 0 hd) (by rw [HSZ.out]; omega)
 rw [HSZ.out] at hC
 refine (tally_Sum.calls k (some _) 1 [bytesOf (s.extract 0 hd)] t _ (MStr.C_varN hC (grownCap_ge _ _ _ _) rfl) (Nat.le_refl _) HT.out).mono ?_
 rintro e w7 ⟨rfl, ⟨nd, rfl⟩⟩
 clear hC kb
 have HB2 := Aside0.mk (show Below w.heap.size w (Lib.bytesWorld w 5 (s.extract 0 hd)) from bytes_below (Below.refl _ _) (Nat.le_refl _) _ _)
 go_wp2_with fail
 go_quiet (fail)
 go_wp2_with fail
 go_ret3
 exact ⟨rfl, (sh_B HB2)⟩
set_option maxHeartbeats 2000000 in
set_option maxRecDepth 100000 in
theorem ip4_heads.good (k : Nat) (s : ByteArray) (t : Int) (hd wh : Nat) (w : World) (h1 : ip4_heads.hd s = (hd : Int)) (h2 : 20 ≤ hd) (h3 : bt s 0 ≤ 79) (h4 : hd ≤ s.size) (ht : tally_Sum.f k [bytesOf (s.extract 0 hd)] = some t) (hw : ip4_heads.wh s = (wh : Int)) (hw2 : wh ≤ 65535) (h5 : t = 65535) (h6 : ¬ (wh : Int) < (hd : Int)) (h7 : Go.bits .and .u8 (bt s 6) 128 = 0) (h8 : ¬ (s.size : Int) < (wh : Int)) :
  Calls Tryd.prog 49 #[.string s] w fun e w' => e = .returned (.tuple #[.int .i64 (hd : Int), .int .i64 (wh : Int), .int .i64 0]) ∧ Below w.heap.size w w' := by
 have HB := Aside0.mk (Below.refl w.heap.size w)
 have hx0 : ∀ h : 0 < s.size, ((s[0]'h).toNat : Int) = bt s 0 := bt_at s 0
 have hx2 : ∀ h : 2 < s.size, ((s[2]'h).toNat : Int) = bt s 2 := bt_at s 2
 have hx3 : ∀ h : 3 < s.size, ((s[3]'h).toNat : Int) = bt s 3 := bt_at s 3
 have hx6 : ∀ h : 6 < s.size, ((s[6]'h).toNat : Int) = bt s 6 := bt_at s 6
 have r0 := (bt_range s 0).1; have r1 := (bt_range s 0).2
 have r2 := (bt_range s 2).1; have r3 := (bt_range s 2).2
 have r4 := (bt_range s 3).1; have r5 := (bt_range s 3).2
 have r6 := (bt_range s 6).1; have r7 := (bt_range s 6).2
 have HT := Aside0.mk ht
 have HSZ := Aside0.mk (show (s.extract 0 hd).size = hd by simp; omega)
 have hm : min hd s.size = hd := by omega
 have hq0 : 0 < s.size := by omega
 have hq2 : 2 < s.size := by omega
 have hq3 : 3 < s.size := by omega
 have hq6 : 6 < s.size := by omega
 have hi0 : ((0 : Int) < (s.size : Int)) = True := eq_true (by omega)
 have hi2 : ((2 : Int) < (s.size : Int)) = True := eq_true (by omega)
 have hi3 : ((3 : Int) < (s.size : Int)) = True := eq_true (by omega)
 have hi6 : ((6 : Int) < (s.size : Int)) = True := eq_true (by omega)
 have hd0 : (0 : Int) ≤ (hd : Int) := by omega
 have hd1 : (hd : Int) ≤ (s.size : Int) := by omega
 have hd2 : ¬ (hd : Int) < 20 := by omega
 have hd3 : ¬ 79 < bt s 0 := by omega
 have hd4 : ¬ (s.size : Int) < (hd : Int) := by omega
 have hd5 : ¬ (s.size : Int) < 20 := by omega
 have hdd : hd ≤ 1000 := by unfold ip4_heads.hd at h1; omega
 have t5 : (t != 65535) = false := by simpa using h5
 have w0 : (0 : Int) ≤ (wh : Int) := by omega
 have w1 : (wh : Int) ≤ 65535 := by omega
 unfold ip4_heads.wh at hw
 have t7 : (Go.bits .and .u8 (bt s 6) 128 != 0) = false := by simpa using h7
 unfold ip4_heads.hd at h1
 clear ht h2
 have kb := fun s W => print_bytes (P := Tryd.prog) 9 70 5 Tryd.underlying9 Tryd.underlying70 Tryd.underlying5 s W
 go_enter Tryd.func49, Tryd.ntmps49
 go_wp2_with fail
 have hC := MStr.C_bytes w 5 (s.extract 0 hd) (by rw [HSZ.out]; omega)
 rw [HSZ.out] at hC
 refine (tally_Sum.calls k (some _) 1 [bytesOf (s.extract 0 hd)] t _ (MStr.C_varN hC (grownCap_ge _ _ _ _) rfl) (Nat.le_refl _) HT.out).mono ?_
 rintro e w7 ⟨rfl, ⟨nd, rfl⟩⟩
 clear hC kb
 have HB2 := Aside0.mk (show Below w.heap.size w (Lib.bytesWorld w 5 (s.extract 0 hd)) from bytes_below (Below.refl _ _) (Nat.le_refl _) _ _)
 go_wp2_with fail
 go_quiet (fail)
 go_wp2_with fail
 go_ret3
 exact ⟨rfl, (sh_B HB2)⟩
theorem ip4_heads.mono : ∀ a0 k, LeO (ip4_heads.f k a0) (ip4_heads.f (k + 1) a0) := by
 intro a0 k
 unfold ip4_heads.f
 repeat' first | (with_reducible exact tally_Sum.mono _ _) | (with_reducible exact LeO.refl _) | (with_reducible exact LeO.none _) | (with_reducible refine LeO.ite ?_ ?_) | (with_reducible refine LeO.bind ?_ (fun _ => ?_))
theorem ip4_heads.calls (k : Nat) (a0 : ByteArray) (r1 r2 r3 : Int) (w : World) (h : ip4_heads.f k a0 = some (r1, r2, r3)) :
  Calls Tryd.prog 49 #[.string a0] w fun e w' => e = .returned (.tuple #[.int .i64 r1, .int .i64 r2, .int .i64 r3]) ∧ Below w.heap.size w w' := by
 unfold ip4_heads.f at h
 by_cases h1 : (a0.size : Int) < 20
 · rw [if_pos h1] at h; injection h with h; injection h with e1 h; injection h with e2 e3; subst e1 e2 e3; exact ip4_heads.short a0 w h1
 rw [if_neg h1] at h
 by_cases h2 : ip4_heads.hd a0 < 20 ∨ bt a0 0 > 79
 · rw [if_pos h2] at h; injection h with h; injection h with e1 h; injection h with e2 e3; subst e1 e2 e3; exact ip4_heads.form a0 w (by omega) h2
 rw [if_neg h2] at h
 by_cases h3 : (a0.size : Int) < ip4_heads.hd a0
 · rw [if_pos h3] at h; injection h with h; injection h with e1 h; injection h with e2 e3; subst e1 e2 e3; exact ip4_heads.short2 a0 w (by omega) h2 h3
 rw [if_neg h3] at h
 obtain ⟨t, ht, h⟩ := Option.bind_eq_some_iff.1 h
 obtain ⟨hd, hhd⟩ := Int.eq_ofNat_of_zero_le (show 0 ≤ ip4_heads.hd a0 by omega)
 rw [hhd, Int.toNat_natCast] at ht
 by_cases ct : t = 65535
 case neg => rw [if_pos ct] at h; injection h with h; injection h with e1 h; injection h with e2 e3; subst e1 e2 e3; exact ip4_heads.bad k a0 t hd w hhd (by omega) (by omega) (by omega) ht ct
 rw [if_neg (fun q => q ct)] at h
 by_cases hw : 0 ≤ ip4_heads.wh a0 ∧ ip4_heads.wh a0 ≤ 65535
 case neg => rw [if_pos hw] at h; cases h
 obtain ⟨wh, hwh⟩ := Int.eq_ofNat_of_zero_le hw.1
 rw [if_neg (fun q => q hw), hhd, hwh] at h
 by_cases h6 : (wh : Int) < (hd : Int)
 · rw [if_pos (.inl h6)] at h; injection h with h; injection h with e1 h; injection h with e2 e3; subst e1 e2 e3
   exact ip4_heads.form1 k a0 t hd wh w hhd (by omega) (by omega) (by omega) ht hwh (by omega) ct h6
 by_cases h7 : Go.bits .and .u8 (bt a0 6) 128 = 0
 case neg =>
  rw [if_pos (.inr h7)] at h; injection h with h; injection h with e1 h; injection h with e2 e3; subst e1 e2 e3
  exact ip4_heads.form2 k a0 t hd wh w hhd (by omega) (by omega) (by omega) ht hwh (by omega) ct h6 h7
 rw [if_neg (fun q => q.elim h6 (fun q => q h7))] at h
 by_cases h8 : (a0.size : Int) < (wh : Int)
 · rw [if_pos h8] at h; injection h with h; injection h with e1 h; injection h with e2 e3; subst e1 e2 e3
   exact ip4_heads.shortw k a0 t hd wh w hhd (by omega) (by omega) (by omega) ht hwh (by omega) ct h6 h7 h8
 rw [if_neg h8] at h; injection h with h; injection h with e1 h; injection h with e2 e3; subst e1 e2 e3
 exact ip4_heads.good k a0 t hd wh w hhd (by omega) (by omega) (by omega) ht hwh (by omega) ct h6 h7 h8

end Go.Proofs.YtaoopneiglgnkaaDoor.PBase
