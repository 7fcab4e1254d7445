/- Functions of the program as Lean functions, each with a proof that a call comes to what it says. Conditions: those of each theorem. Laid by a program of this session. -/
import Derived.Test.YtaoopneiglgnkaaDoorPBasex0
import Derived.Test.YtaoopneiglgnkaaDoorPBasex2
import Derived.Test.YtaoopneiglgnkaaDoorPBasex3
import Derived.Test.YtaoopneiglgnkaaDoorPBasex9
namespace Go.Proofs.YtaoopneiglgnkaaDoor.PBase
open Go.RowKit Go.Proofs.YtaoopneiglgnkaaDoor Go.Proofs.YtaoopneiglgnkaaDoorW.PrintWords Go.Proofs.YtaoopneiglgnkaaDoorW.PrintLast Go.Proofs.YtaoopneiglgnkaaDoorW.PrintMore
attribute [local go_sem] max2_int min2_int max_two min_two max_three min_three max_four min_four   -- for this text's walks alone
set_option linter.unusedVariables false
set_option linter.unusedSimpArgs false

/-! ### ip4_may: function 39 -/
def ip4_may.f (a0_0 : Int) (a0_1 : Int) (a0_2 : Bool) (a0_3 : Bool) (a0_4 : Int) (a0_5 : Int) (a0_6 : Int) (a0_7 : Bool) (a0_8 : Int) (a0_9 : Int) (a0_10 : Bool) (a0_11 : Int) (a0_12 : Int) (a0_13 : ByteArray) (a0_14 : ByteArray) : Option (Bool) := (ip4_Options.f a0_13).bind fun bt211 => ((ip4_within.f a0_0 255).bind fun t215 => (if t215 = true then ((ip4_within.f a0_5 255).bind fun t216 => (if t216 = true then ((ip4_within.f a0_6 255).bind fun t217 => (if t217 = true then ((ip4_within.f a0_1 65535).bind fun t218 => (if t218 = true then ((ip4_within.f a0_4 8191).bind fun t219 => (if t219 = true then ((ip4_four.f a0_7 a0_8 a0_9).bind fun t220 => (if t220 = true then ((ip4_four.f a0_10 a0_11 a0_12).bind fun t221 => (if t221 = true then (if (a0_13.size : Int) ≤ 40 then (if ((a0_13.size : Int) % 4) = 0 then (some (bt211.2 == 0)) else (some false)) else (some false)) else (some false))) else (some false))) else (some false))) else (some false))) else (some false))) else (some false))) else (some false)))
set_option maxHeartbeats 8000000 in
set_option maxRecDepth 100000 in
theorem ip4_may.calls (a0_0 : Int) (a0_1 : Int) (a0_2 : Bool) (a0_3 : Bool) (a0_4 : Int) (a0_5 : Int) (a0_6 : Int) (a0_7 : Bool) (a0_8 : Int) (a0_9 : Int) (a0_10 : Bool) (a0_11 : Int) (a0_12 : Int) (a0_13 : ByteArray) (a0_14 : ByteArray) (r : Bool) (w : World) (h : ip4_may.f a0_0 a0_1 a0_2 a0_3 a0_4 a0_5 a0_6 a0_7 a0_8 a0_9 a0_10 a0_11 a0_12 a0_13 a0_14 = some r) :
  Calls Tryd.prog 39 #[.agg #[.int .i64 a0_0, .int .i64 a0_1, .bool a0_2, .bool a0_3, .int .i64 a0_4, .int .i64 a0_5, .int .i64 a0_6, .bool a0_7, .int .u64 a0_8, .int .u64 a0_9, .bool a0_10, .int .u64 a0_11, .int .u64 a0_12, .string a0_13, .string a0_14]] w fun e w' => e = .returned (.bool r) ∧ Below w.heap.size w w' := by
 have hu37 := Tryd.underlying37
 have hu28 := Tryd.underlying28
 have HB := Aside0.mk (Below.refl w.heap.size w)
 have H : ((ip4_Options.f a0_13).bind fun bt211 => ((ip4_within.f a0_0 255).bind fun t215 => (if t215 = true then ((ip4_within.f a0_5 255).bind fun t216 => (if t216 = true then ((ip4_within.f a0_6 255).bind fun t217 => (if t217 = true then ((ip4_within.f a0_1 65535).bind fun t218 => (if t218 = true then ((ip4_within.f a0_4 8191).bind fun t219 => (if t219 = true then ((ip4_four.f a0_7 a0_8 a0_9).bind fun t220 => (if t220 = true then ((ip4_four.f a0_10 a0_11 a0_12).bind fun t221 => (if t221 = true then (if (a0_13.size : Int) ≤ 40 then (if ((a0_13.size : Int) % 4) = 0 then (some (bt211.2 == 0)) else (some false)) else (some false)) else (some false))) else (some false))) else (some false))) else (some false))) else (some false))) else (some false))) else (some false)))) = some r := h
 clear h
 replace H := Option.bind_eq_some_iff.mp H
 obtain ⟨⟨t211, t212⟩, A20, H⟩ := H
 replace H : ((ip4_within.f a0_0 255).bind fun t215 => (if t215 = true then ((ip4_within.f a0_5 255).bind fun t216 => (if t216 = true then ((ip4_within.f a0_6 255).bind fun t217 => (if t217 = true then ((ip4_within.f a0_1 65535).bind fun t218 => (if t218 = true then ((ip4_within.f a0_4 8191).bind fun t219 => (if t219 = true then ((ip4_four.f a0_7 a0_8 a0_9).bind fun t220 => (if t220 = true then ((ip4_four.f a0_10 a0_11 a0_12).bind fun t221 => (if t221 = true then (if (a0_13.size : Int) ≤ 40 then (if ((a0_13.size : Int) % 4) = 0 then (some (t212 == 0)) else (some false)) else (some false)) else (some false))) else (some false))) else (some false))) else (some false))) else (some false))) else (some false))) else (some false))) = some r := H
 have A2 := Aside0.mk A20
 clear A20
 replace H := Option.bind_eq_some_iff.mp H
 obtain ⟨t215, A30, H⟩ := H
 have A3 := Aside0.mk A30
 clear A30
 by_cases c4 : t215 = true
 ·
  subst c4
  rw [if_pos rfl] at H
  replace H := Option.bind_eq_some_iff.mp H
  obtain ⟨t216, A50, H⟩ := H
  have A5 := Aside0.mk A50
  clear A50
  by_cases c6 : t216 = true
  ·
   subst c6
   rw [if_pos rfl] at H
   replace H := Option.bind_eq_some_iff.mp H
   obtain ⟨t217, A70, H⟩ := H
   have A7 := Aside0.mk A70
   clear A70
   by_cases c8 : t217 = true
   ·
    subst c8
    rw [if_pos rfl] at H
    replace H := Option.bind_eq_some_iff.mp H
    obtain ⟨t218, A90, H⟩ := H
    have A9 := Aside0.mk A90
    clear A90
    by_cases c10 : t218 = true
    ·
     subst c10
     rw [if_pos rfl] at H
     replace H := Option.bind_eq_some_iff.mp H
     obtain ⟨t219, A110, H⟩ := H
     have A11 := Aside0.mk A110
     clear A110
     by_cases c12 : t219 = true
     ·
      subst c12
      rw [if_pos rfl] at H
      replace H := Option.bind_eq_some_iff.mp H
      obtain ⟨t220, A130, H⟩ := H
      have A13 := Aside0.mk A130
      clear A130
      by_cases c14 : t220 = true
      ·
       subst c14
       rw [if_pos rfl] at H
       replace H := Option.bind_eq_some_iff.mp H
       obtain ⟨t221, A150, H⟩ := H
       have A15 := Aside0.mk A150
       clear A150
       by_cases c16 : t221 = true
       ·
        subst c16
        rw [if_pos rfl] at H
        by_cases c17 : (a0_13.size : Int) ≤ 40
        ·
         rw [if_pos c17] at H
         have c17b0 : decide ((a0_13.size : Int) ≤ 40) = true := decide_eq_true c17
         have c17b1 : decide (a0_13.size ≤ 40) = true := decide_eq_true (by omega)
         clear c17
         by_cases c18 : ((a0_13.size : Int) % 4) = 0
         ·
          rw [if_pos c18] at H
          have c18b0 : (((a0_13.size : Int) % 4) == 0) = true := beq_iff_eq.mpr c18
          have c18b1 : (((a0_13.size : Int) % 4) != 0) = false := bne_eq_false_iff_eq.mpr c18
          clear c18
          obtain rfl := Option.some.inj H
          go_enter Tryd.func39, Tryd.ntmps39
          go_wp2_with (first | ((with_reducible refine gate_dst (N := 1) rfl ?_); (try (refine gate_guard (by rfl) ?_; dsimp only)); refine sh_E 1 37 #[.int .i64 a0_0, .int .i64 a0_1, .bool a0_2, .bool a0_3, .int .i64 a0_4, .int .i64 a0_5, .int .i64 a0_6, .bool a0_7, .int .u64 a0_8, .int .u64 a0_9, .bool a0_10, .int .u64 a0_11, .int .u64 a0_12, .string a0_13, .string a0_14] ?_; intro gb210 hg w19 hbox hb; have BK210 := Aside0.mk hbox; have GW210 := sh_G HB hg; have GE210 := GW210; replace HB := sh_S HB hb; clear hb hbox hg; obtain ⟨hcz20_0, hcz20_1, hcz20_2, hcz20_3, hcz20_4, hcz20_5, hcz20_6, hcz20_7, hcz20_8, hcz20_9, hcz20_10, hcz20_11, hcz20_12, hcz20_13, hcz20_14⟩ := MBlk.c15 BK210.out; obtain ⟨hfz20_0, hfz20_1, hfz20_2, hfz20_3, hfz20_4, hfz20_5, hfz20_6, hfz20_7, hfz20_8, hfz20_9, hfz20_10, hfz20_11, hfz20_12, hfz20_13, hfz20_14⟩ := MBlk.f15 BK210.out) | ((with_reducible refine gate_callee (f := 50) rfl ?_); refine sh_C 9 Tryd.func50 #[.string a0_13] ?_; (with_reducible refine (ip4_Options.calls a0_13 t211 t212 _ A2.out).mono ?_); rintro e w21 ⟨v213, rfl, ho0, hb⟩; refine ⟨_, rfl, ?_⟩; have HO214 := Aside0.mk (Kd.R_lower ho0 (below_size (sh_B HB))); replace BK210 := sh_L BK210 hb; replace HB := sh_S HB hb; (try clear hb); (try clear hb2); (try clear hk); (try clear hi); (try clear ho0); obtain ⟨hcz22_0, hcz22_1, hcz22_2, hcz22_3, hcz22_4, hcz22_5, hcz22_6, hcz22_7, hcz22_8, hcz22_9, hcz22_10, hcz22_11, hcz22_12, hcz22_13, hcz22_14⟩ := MBlk.c15 BK210.out; obtain ⟨hfz22_0, hfz22_1, hfz22_2, hfz22_3, hfz22_4, hfz22_5, hfz22_6, hfz22_7, hfz22_8, hfz22_9, hfz22_10, hfz22_11, hfz22_12, hfz22_13, hfz22_14⟩ := MBlk.f15 BK210.out) | ((with_reducible refine gate_callee (f := 72) rfl ?_); refine sh_C 14 Tryd.func72 #[.int .i64 a0_0, .int .i64 255] ?_; (with_reducible refine (ip4_within.calls a0_0 255 true _ A3.out).mono ?_); rintro e w' ⟨rfl, ⟨nd, rfl⟩⟩; refine ⟨_, rfl, ?_⟩) | (go_at_call 72; (with_reducible refine (ip4_within.calls a0_5 255 true _ A5.out).mono ?_); rintro e w' ⟨rfl, ⟨nd, rfl⟩⟩) | (go_at_call 72; (with_reducible refine (ip4_within.calls a0_6 255 true _ A7.out).mono ?_); rintro e w' ⟨rfl, ⟨nd, rfl⟩⟩) | (go_at_call 72; (with_reducible refine (ip4_within.calls a0_1 65535 true _ A9.out).mono ?_); rintro e w' ⟨rfl, ⟨nd, rfl⟩⟩) | (go_at_call 72; (with_reducible refine (ip4_within.calls a0_4 8191 true _ A11.out).mono ?_); rintro e w' ⟨rfl, ⟨nd, rfl⟩⟩) | (go_at_call 73; (with_reducible refine (ip4_four.calls a0_7 a0_8 a0_9 true _ A13.out).mono ?_); rintro e w23 ⟨rfl, hb⟩; have n0_ := Aside0.mk (Kd.R_below (by (with_reducible repeat (first | apply Kd.R_alloc | apply Kd.R_drewN | apply Kd.R_drew)); exact HO214.out) hb); have n1_ := sh_L BK210 hb; have n2_ := sh_S HB hb; clear HO214; clear BK210; clear HB; have HO214 := n0_; have BK210 := n1_; have HB := n2_; clear n0_ n1_ n2_; (try clear hb); (try clear hb2); (try clear hk); (try clear hi); obtain ⟨hcz24_0, hcz24_1, hcz24_2, hcz24_3, hcz24_4, hcz24_5, hcz24_6, hcz24_7, hcz24_8, hcz24_9, hcz24_10, hcz24_11, hcz24_12, hcz24_13, hcz24_14⟩ := MBlk.c15 BK210.out; obtain ⟨hfz24_0, hfz24_1, hfz24_2, hfz24_3, hfz24_4, hfz24_5, hfz24_6, hfz24_7, hfz24_8, hfz24_9, hfz24_10, hfz24_11, hfz24_12, hfz24_13, hfz24_14⟩ := MBlk.f15 BK210.out) | (go_at_call 73; (with_reducible refine (ip4_four.calls a0_10 a0_11 a0_12 true _ A15.out).mono ?_); rintro e w25 ⟨rfl, hb⟩; have n0_ := Aside0.mk (Kd.R_below (by (with_reducible repeat (first | apply Kd.R_alloc | apply Kd.R_drewN | apply Kd.R_drew)); exact HO214.out) hb); have n1_ := sh_L BK210 hb; have n2_ := sh_S HB hb; clear HO214; clear BK210; clear HB; have HO214 := n0_; have BK210 := n1_; have HB := n2_; clear n0_ n1_ n2_; (try clear hb); (try clear hb2); (try clear hk); (try clear hi); obtain ⟨hcz26_0, hcz26_1, hcz26_2, hcz26_3, hcz26_4, hcz26_5, hcz26_6, hcz26_7, hcz26_8, hcz26_9, hcz26_10, hcz26_11, hcz26_12, hcz26_13, hcz26_14⟩ := MBlk.c15 BK210.out; obtain ⟨hfz26_0, hfz26_1, hfz26_2, hfz26_3, hfz26_4, hfz26_5, hfz26_6, hfz26_7, hfz26_8, hfz26_9, hfz26_10, hfz26_11, hfz26_12, hfz26_13, hfz26_14⟩ := MBlk.f15 BK210.out))
          go_ret
          exact ⟨by first | rfl | (simp [errW_none, errW_some] <;> rfl) | (simp [*, errW_none, errW_some] <;> rfl), by repeat (first | (with_reducible first | exact HB.out | apply below_alloc | apply pw_below_drewN | apply below_drew1 | refine below_set ?_ GE210.out) | exact HB.out)⟩
         ·
          rw [if_neg c18] at H
          have c18b0 : (((a0_13.size : Int) % 4) == 0) = false := beq_eq_false_iff_ne.mpr c18
          have c18b1 : (((a0_13.size : Int) % 4) != 0) = true := bne_iff_ne.mpr c18
          obtain rfl := Option.some.inj H
          go_enter Tryd.func39, Tryd.ntmps39
          go_wp2_with (first | ((with_reducible refine gate_dst (N := 1) rfl ?_); (try (refine gate_guard (by rfl) ?_; dsimp only)); refine sh_E 1 37 #[.int .i64 a0_0, .int .i64 a0_1, .bool a0_2, .bool a0_3, .int .i64 a0_4, .int .i64 a0_5, .int .i64 a0_6, .bool a0_7, .int .u64 a0_8, .int .u64 a0_9, .bool a0_10, .int .u64 a0_11, .int .u64 a0_12, .string a0_13, .string a0_14] ?_; intro gb210 hg w27 hbox hb; have BK210 := Aside0.mk hbox; have GW210 := sh_G HB hg; have GE210 := GW210; replace HB := sh_S HB hb; clear hb hbox hg; obtain ⟨hcz28_0, hcz28_1, hcz28_2, hcz28_3, hcz28_4, hcz28_5, hcz28_6, hcz28_7, hcz28_8, hcz28_9, hcz28_10, hcz28_11, hcz28_12, hcz28_13, hcz28_14⟩ := MBlk.c15 BK210.out; obtain ⟨hfz28_0, hfz28_1, hfz28_2, hfz28_3, hfz28_4, hfz28_5, hfz28_6, hfz28_7, hfz28_8, hfz28_9, hfz28_10, hfz28_11, hfz28_12, hfz28_13, hfz28_14⟩ := MBlk.f15 BK210.out) | ((with_reducible refine gate_callee (f := 50) rfl ?_); refine sh_C 9 Tryd.func50 #[.string a0_13] ?_; (with_reducible refine (ip4_Options.calls a0_13 t211 t212 _ A2.out).mono ?_); rintro e w29 ⟨v213, rfl, ho0, hb⟩; refine ⟨_, rfl, ?_⟩; have HO214 := Aside0.mk (Kd.R_lower ho0 (below_size (sh_B HB))); replace BK210 := sh_L BK210 hb; replace HB := sh_S HB hb; (try clear hb); (try clear hb2); (try clear hk); (try clear hi); (try clear ho0); obtain ⟨hcz30_0, hcz30_1, hcz30_2, hcz30_3, hcz30_4, hcz30_5, hcz30_6, hcz30_7, hcz30_8, hcz30_9, hcz30_10, hcz30_11, hcz30_12, hcz30_13, hcz30_14⟩ := MBlk.c15 BK210.out; obtain ⟨hfz30_0, hfz30_1, hfz30_2, hfz30_3, hfz30_4, hfz30_5, hfz30_6, hfz30_7, hfz30_8, hfz30_9, hfz30_10, hfz30_11, hfz30_12, hfz30_13, hfz30_14⟩ := MBlk.f15 BK210.out) | ((with_reducible refine gate_callee (f := 72) rfl ?_); refine sh_C 14 Tryd.func72 #[.int .i64 a0_0, .int .i64 255] ?_; (with_reducible refine (ip4_within.calls a0_0 255 true _ A3.out).mono ?_); rintro e w' ⟨rfl, ⟨nd, rfl⟩⟩; refine ⟨_, rfl, ?_⟩) | (go_at_call 72; (with_reducible refine (ip4_within.calls a0_5 255 true _ A5.out).mono ?_); rintro e w' ⟨rfl, ⟨nd, rfl⟩⟩) | (go_at_call 72; (with_reducible refine (ip4_within.calls a0_6 255 true _ A7.out).mono ?_); rintro e w' ⟨rfl, ⟨nd, rfl⟩⟩) | (go_at_call 72; (with_reducible refine (ip4_within.calls a0_1 65535 true _ A9.out).mono ?_); rintro e w' ⟨rfl, ⟨nd, rfl⟩⟩) | (go_at_call 72; (with_reducible refine (ip4_within.calls a0_4 8191 true _ A11.out).mono ?_); rintro e w' ⟨rfl, ⟨nd, rfl⟩⟩) | (go_at_call 73; (with_reducible refine (ip4_four.calls a0_7 a0_8 a0_9 true _ A13.out).mono ?_); rintro e w31 ⟨rfl, hb⟩; have n0_ := Aside0.mk (Kd.R_below (by (with_reducible repeat (first | apply Kd.R_alloc | apply Kd.R_drewN | apply Kd.R_drew)); exact HO214.out) hb); have n1_ := sh_L BK210 hb; have n2_ := sh_S HB hb; clear HO214; clear BK210; clear HB; have HO214 := n0_; have BK210 := n1_; have HB := n2_; clear n0_ n1_ n2_; (try clear hb); (try clear hb2); (try clear hk); (try clear hi); obtain ⟨hcz32_0, hcz32_1, hcz32_2, hcz32_3, hcz32_4, hcz32_5, hcz32_6, hcz32_7, hcz32_8, hcz32_9, hcz32_10, hcz32_11, hcz32_12, hcz32_13, hcz32_14⟩ := MBlk.c15 BK210.out; obtain ⟨hfz32_0, hfz32_1, hfz32_2, hfz32_3, hfz32_4, hfz32_5, hfz32_6, hfz32_7, hfz32_8, hfz32_9, hfz32_10, hfz32_11, hfz32_12, hfz32_13, hfz32_14⟩ := MBlk.f15 BK210.out) | (go_at_call 73; (with_reducible refine (ip4_four.calls a0_10 a0_11 a0_12 true _ A15.out).mono ?_); rintro e w33 ⟨rfl, hb⟩; have n0_ := Aside0.mk (Kd.R_below (by (with_reducible repeat (first | apply Kd.R_alloc | apply Kd.R_drewN | apply Kd.R_drew)); exact HO214.out) hb); have n1_ := sh_L BK210 hb; have n2_ := sh_S HB hb; clear HO214; clear BK210; clear HB; have HO214 := n0_; have BK210 := n1_; have HB := n2_; clear n0_ n1_ n2_; (try clear hb); (try clear hb2); (try clear hk); (try clear hi); obtain ⟨hcz34_0, hcz34_1, hcz34_2, hcz34_3, hcz34_4, hcz34_5, hcz34_6, hcz34_7, hcz34_8, hcz34_9, hcz34_10, hcz34_11, hcz34_12, hcz34_13, hcz34_14⟩ := MBlk.c15 BK210.out; obtain ⟨hfz34_0, hfz34_1, hfz34_2, hfz34_3, hfz34_4, hfz34_5, hfz34_6, hfz34_7, hfz34_8, hfz34_9, hfz34_10, hfz34_11, hfz34_12, hfz34_13, hfz34_14⟩ := MBlk.f15 BK210.out))
          go_ret
          exact ⟨by first | rfl | (simp [errW_none, errW_some] <;> rfl) | (simp [*, errW_none, errW_some] <;> rfl), by repeat (first | (with_reducible first | exact HB.out | apply below_alloc | apply pw_below_drewN | apply below_drew1 | refine below_set ?_ GE210.out) | exact HB.out)⟩
        ·
         rw [if_neg c17] at H
         have c17b0 : decide ((a0_13.size : Int) ≤ 40) = false := decide_eq_false c17
         have c17b1 : decide (a0_13.size ≤ 40) = false := decide_eq_false (by omega)
         clear c17
         obtain rfl := Option.some.inj H
         go_enter Tryd.func39, Tryd.ntmps39
         go_wp2_with (first | ((with_reducible refine gate_dst (N := 1) rfl ?_); (try (refine gate_guard (by rfl) ?_; dsimp only)); refine sh_E 1 37 #[.int .i64 a0_0, .int .i64 a0_1, .bool a0_2, .bool a0_3, .int .i64 a0_4, .int .i64 a0_5, .int .i64 a0_6, .bool a0_7, .int .u64 a0_8, .int .u64 a0_9, .bool a0_10, .int .u64 a0_11, .int .u64 a0_12, .string a0_13, .string a0_14] ?_; intro gb210 hg w35 hbox hb; have BK210 := Aside0.mk hbox; have GW210 := sh_G HB hg; have GE210 := GW210; replace HB := sh_S HB hb; clear hb hbox hg; obtain ⟨hcz36_0, hcz36_1, hcz36_2, hcz36_3, hcz36_4, hcz36_5, hcz36_6, hcz36_7, hcz36_8, hcz36_9, hcz36_10, hcz36_11, hcz36_12, hcz36_13, hcz36_14⟩ := MBlk.c15 BK210.out; obtain ⟨hfz36_0, hfz36_1, hfz36_2, hfz36_3, hfz36_4, hfz36_5, hfz36_6, hfz36_7, hfz36_8, hfz36_9, hfz36_10, hfz36_11, hfz36_12, hfz36_13, hfz36_14⟩ := MBlk.f15 BK210.out) | ((with_reducible refine gate_callee (f := 50) rfl ?_); refine sh_C 9 Tryd.func50 #[.string a0_13] ?_; (with_reducible refine (ip4_Options.calls a0_13 t211 t212 _ A2.out).mono ?_); rintro e w37 ⟨v213, rfl, ho0, hb⟩; refine ⟨_, rfl, ?_⟩; have HO214 := Aside0.mk (Kd.R_lower ho0 (below_size (sh_B HB))); replace BK210 := sh_L BK210 hb; replace HB := sh_S HB hb; (try clear hb); (try clear hb2); (try clear hk); (try clear hi); (try clear ho0); obtain ⟨hcz38_0, hcz38_1, hcz38_2, hcz38_3, hcz38_4, hcz38_5, hcz38_6, hcz38_7, hcz38_8, hcz38_9, hcz38_10, hcz38_11, hcz38_12, hcz38_13, hcz38_14⟩ := MBlk.c15 BK210.out; obtain ⟨hfz38_0, hfz38_1, hfz38_2, hfz38_3, hfz38_4, hfz38_5, hfz38_6, hfz38_7, hfz38_8, hfz38_9, hfz38_10, hfz38_11, hfz38_12, hfz38_13, hfz38_14⟩ := MBlk.f15 BK210.out) | ((with_reducible refine gate_callee (f := 72) rfl ?_); refine sh_C 14 Tryd.func72 #[.int .i64 a0_0, .int .i64 255] ?_; (with_reducible refine (ip4_within.calls a0_0 255 true _ A3.out).mono ?_); rintro e w' ⟨rfl, ⟨nd, rfl⟩⟩; refine ⟨_, rfl, ?_⟩) | (go_at_call 72; (with_reducible refine (ip4_within.calls a0_5 255 true _ A5.out).mono ?_); rintro e w' ⟨rfl, ⟨nd, rfl⟩⟩) | (go_at_call 72; (with_reducible refine (ip4_within.calls a0_6 255 true _ A7.out).mono ?_); rintro e w' ⟨rfl, ⟨nd, rfl⟩⟩) | (go_at_call 72; (with_reducible refine (ip4_within.calls a0_1 65535 true _ A9.out).mono ?_); rintro e w' ⟨rfl, ⟨nd, rfl⟩⟩) | (go_at_call 72; (with_reducible refine (ip4_within.calls a0_4 8191 true _ A11.out).mono ?_); rintro e w' ⟨rfl, ⟨nd, rfl⟩⟩) | (go_at_call 73; (with_reducible refine (ip4_four.calls a0_7 a0_8 a0_9 true _ A13.out).mono ?_); rintro e w39 ⟨rfl, hb⟩; have n0_ := Aside0.mk (Kd.R_below (by (with_reducible repeat (first | apply Kd.R_alloc | apply Kd.R_drewN | apply Kd.R_drew)); exact HO214.out) hb); have n1_ := sh_L BK210 hb; have n2_ := sh_S HB hb; clear HO214; clear BK210; clear HB; have HO214 := n0_; have BK210 := n1_; have HB := n2_; clear n0_ n1_ n2_; (try clear hb); (try clear hb2); (try clear hk); (try clear hi); obtain ⟨hcz40_0, hcz40_1, hcz40_2, hcz40_3, hcz40_4, hcz40_5, hcz40_6, hcz40_7, hcz40_8, hcz40_9, hcz40_10, hcz40_11, hcz40_12, hcz40_13, hcz40_14⟩ := MBlk.c15 BK210.out; obtain ⟨hfz40_0, hfz40_1, hfz40_2, hfz40_3, hfz40_4, hfz40_5, hfz40_6, hfz40_7, hfz40_8, hfz40_9, hfz40_10, hfz40_11, hfz40_12, hfz40_13, hfz40_14⟩ := MBlk.f15 BK210.out) | (go_at_call 73; (with_reducible refine (ip4_four.calls a0_10 a0_11 a0_12 true _ A15.out).mono ?_); rintro e w41 ⟨rfl, hb⟩; have n0_ := Aside0.mk (Kd.R_below (by (with_reducible repeat (first | apply Kd.R_alloc | apply Kd.R_drewN | apply Kd.R_drew)); exact HO214.out) hb); have n1_ := sh_L BK210 hb; have n2_ := sh_S HB hb; clear HO214; clear BK210; clear HB; have HO214 := n0_; have BK210 := n1_; have HB := n2_; clear n0_ n1_ n2_; (try clear hb); (try clear hb2); (try clear hk); (try clear hi); obtain ⟨hcz42_0, hcz42_1, hcz42_2, hcz42_3, hcz42_4, hcz42_5, hcz42_6, hcz42_7, hcz42_8, hcz42_9, hcz42_10, hcz42_11, hcz42_12, hcz42_13, hcz42_14⟩ := MBlk.c15 BK210.out; obtain ⟨hfz42_0, hfz42_1, hfz42_2, hfz42_3, hfz42_4, hfz42_5, hfz42_6, hfz42_7, hfz42_8, hfz42_9, hfz42_10, hfz42_11, hfz42_12, hfz42_13, hfz42_14⟩ := MBlk.f15 BK210.out))
         go_ret
         exact ⟨by first | rfl | (simp [errW_none, errW_some] <;> rfl) | (simp [*, errW_none, errW_some] <;> rfl), by repeat (first | (with_reducible first | exact HB.out | apply below_alloc | apply pw_below_drewN | apply below_drew1 | refine below_set ?_ GE210.out) | exact HB.out)⟩
       ·
        replace c16 := Bool.eq_false_iff.mpr c16
        subst c16
        rw [if_neg (show ¬ (false = true) by decide)] at H
        obtain rfl := Option.some.inj H
        go_enter Tryd.func39, Tryd.ntmps39
        go_wp2_with (first | ((with_reducible refine gate_dst (N := 1) rfl ?_); (try (refine gate_guard (by rfl) ?_; dsimp only)); refine sh_E 1 37 #[.int .i64 a0_0, .int .i64 a0_1, .bool a0_2, .bool a0_3, .int .i64 a0_4, .int .i64 a0_5, .int .i64 a0_6, .bool a0_7, .int .u64 a0_8, .int .u64 a0_9, .bool a0_10, .int .u64 a0_11, .int .u64 a0_12, .string a0_13, .string a0_14] ?_; intro gb210 hg w43 hbox hb; have BK210 := Aside0.mk hbox; have GW210 := sh_G HB hg; have GE210 := GW210; replace HB := sh_S HB hb; clear hb hbox hg; obtain ⟨hcz44_0, hcz44_1, hcz44_2, hcz44_3, hcz44_4, hcz44_5, hcz44_6, hcz44_7, hcz44_8, hcz44_9, hcz44_10, hcz44_11, hcz44_12, hcz44_13, hcz44_14⟩ := MBlk.c15 BK210.out; obtain ⟨hfz44_0, hfz44_1, hfz44_2, hfz44_3, hfz44_4, hfz44_5, hfz44_6, hfz44_7, hfz44_8, hfz44_9, hfz44_10, hfz44_11, hfz44_12, hfz44_13, hfz44_14⟩ := MBlk.f15 BK210.out) | ((with_reducible refine gate_callee (f := 50) rfl ?_); refine sh_C 9 Tryd.func50 #[.string a0_13] ?_; (with_reducible refine (ip4_Options.calls a0_13 t211 t212 _ A2.out).mono ?_); rintro e w45 ⟨v213, rfl, ho0, hb⟩; refine ⟨_, rfl, ?_⟩; have HO214 := Aside0.mk (Kd.R_lower ho0 (below_size (sh_B HB))); replace BK210 := sh_L BK210 hb; replace HB := sh_S HB hb; (try clear hb); (try clear hb2); (try clear hk); (try clear hi); (try clear ho0); obtain ⟨hcz46_0, hcz46_1, hcz46_2, hcz46_3, hcz46_4, hcz46_5, hcz46_6, hcz46_7, hcz46_8, hcz46_9, hcz46_10, hcz46_11, hcz46_12, hcz46_13, hcz46_14⟩ := MBlk.c15 BK210.out; obtain ⟨hfz46_0, hfz46_1, hfz46_2, hfz46_3, hfz46_4, hfz46_5, hfz46_6, hfz46_7, hfz46_8, hfz46_9, hfz46_10, hfz46_11, hfz46_12, hfz46_13, hfz46_14⟩ := MBlk.f15 BK210.out) | ((with_reducible refine gate_callee (f := 72) rfl ?_); refine sh_C 14 Tryd.func72 #[.int .i64 a0_0, .int .i64 255] ?_; (with_reducible refine (ip4_within.calls a0_0 255 true _ A3.out).mono ?_); rintro e w' ⟨rfl, ⟨nd, rfl⟩⟩; refine ⟨_, rfl, ?_⟩) | (go_at_call 72; (with_reducible refine (ip4_within.calls a0_5 255 true _ A5.out).mono ?_); rintro e w' ⟨rfl, ⟨nd, rfl⟩⟩) | (go_at_call 72; (with_reducible refine (ip4_within.calls a0_6 255 true _ A7.out).mono ?_); rintro e w' ⟨rfl, ⟨nd, rfl⟩⟩) | (go_at_call 72; (with_reducible refine (ip4_within.calls a0_1 65535 true _ A9.out).mono ?_); rintro e w' ⟨rfl, ⟨nd, rfl⟩⟩) | (go_at_call 72; (with_reducible refine (ip4_within.calls a0_4 8191 true _ A11.out).mono ?_); rintro e w' ⟨rfl, ⟨nd, rfl⟩⟩) | (go_at_call 73; (with_reducible refine (ip4_four.calls a0_7 a0_8 a0_9 true _ A13.out).mono ?_); rintro e w47 ⟨rfl, hb⟩; have n0_ := Aside0.mk (Kd.R_below (by (with_reducible repeat (first | apply Kd.R_alloc | apply Kd.R_drewN | apply Kd.R_drew)); exact HO214.out) hb); have n1_ := sh_L BK210 hb; have n2_ := sh_S HB hb; clear HO214; clear BK210; clear HB; have HO214 := n0_; have BK210 := n1_; have HB := n2_; clear n0_ n1_ n2_; (try clear hb); (try clear hb2); (try clear hk); (try clear hi); obtain ⟨hcz48_0, hcz48_1, hcz48_2, hcz48_3, hcz48_4, hcz48_5, hcz48_6, hcz48_7, hcz48_8, hcz48_9, hcz48_10, hcz48_11, hcz48_12, hcz48_13, hcz48_14⟩ := MBlk.c15 BK210.out; obtain ⟨hfz48_0, hfz48_1, hfz48_2, hfz48_3, hfz48_4, hfz48_5, hfz48_6, hfz48_7, hfz48_8, hfz48_9, hfz48_10, hfz48_11, hfz48_12, hfz48_13, hfz48_14⟩ := MBlk.f15 BK210.out) | (go_at_call 73; (with_reducible refine (ip4_four.calls a0_10 a0_11 a0_12 false _ A15.out).mono ?_); rintro e w49 ⟨rfl, hb⟩; have n0_ := Aside0.mk (Kd.R_below (by (with_reducible repeat (first | apply Kd.R_alloc | apply Kd.R_drewN | apply Kd.R_drew)); exact HO214.out) hb); have n1_ := sh_L BK210 hb; have n2_ := sh_S HB hb; clear HO214; clear BK210; clear HB; have HO214 := n0_; have BK210 := n1_; have HB := n2_; clear n0_ n1_ n2_; (try clear hb); (try clear hb2); (try clear hk); (try clear hi)))
        go_ret
        exact ⟨by first | rfl | (simp [errW_none, errW_some] <;> rfl) | (simp [*, errW_none, errW_some] <;> rfl), by repeat (first | (with_reducible first | exact HB.out | apply below_alloc | apply pw_below_drewN | apply below_drew1 | refine below_set ?_ GE210.out) | exact HB.out)⟩
      ·
       replace c14 := Bool.eq_false_iff.mpr c14
       subst c14
       rw [if_neg (show ¬ (false = true) by decide)] at H
       obtain rfl := Option.some.inj H
       go_enter Tryd.func39, Tryd.ntmps39
       go_wp2_with (first | ((with_reducible refine gate_dst (N := 1) rfl ?_); (try (refine gate_guard (by rfl) ?_; dsimp only)); refine sh_E 1 37 #[.int .i64 a0_0, .int .i64 a0_1, .bool a0_2, .bool a0_3, .int .i64 a0_4, .int .i64 a0_5, .int .i64 a0_6, .bool a0_7, .int .u64 a0_8, .int .u64 a0_9, .bool a0_10, .int .u64 a0_11, .int .u64 a0_12, .string a0_13, .string a0_14] ?_; intro gb210 hg w50 hbox hb; have BK210 := Aside0.mk hbox; have GW210 := sh_G HB hg; have GE210 := GW210; replace HB := sh_S HB hb; clear hb hbox hg; obtain ⟨hcz51_0, hcz51_1, hcz51_2, hcz51_3, hcz51_4, hcz51_5, hcz51_6, hcz51_7, hcz51_8, hcz51_9, hcz51_10, hcz51_11, hcz51_12, hcz51_13, hcz51_14⟩ := MBlk.c15 BK210.out; obtain ⟨hfz51_0, hfz51_1, hfz51_2, hfz51_3, hfz51_4, hfz51_5, hfz51_6, hfz51_7, hfz51_8, hfz51_9, hfz51_10, hfz51_11, hfz51_12, hfz51_13, hfz51_14⟩ := MBlk.f15 BK210.out) | ((with_reducible refine gate_callee (f := 50) rfl ?_); refine sh_C 9 Tryd.func50 #[.string a0_13] ?_; (with_reducible refine (ip4_Options.calls a0_13 t211 t212 _ A2.out).mono ?_); rintro e w52 ⟨v213, rfl, ho0, hb⟩; refine ⟨_, rfl, ?_⟩; have HO214 := Aside0.mk (Kd.R_lower ho0 (below_size (sh_B HB))); replace BK210 := sh_L BK210 hb; replace HB := sh_S HB hb; (try clear hb); (try clear hb2); (try clear hk); (try clear hi); (try clear ho0); obtain ⟨hcz53_0, hcz53_1, hcz53_2, hcz53_3, hcz53_4, hcz53_5, hcz53_6, hcz53_7, hcz53_8, hcz53_9, hcz53_10, hcz53_11, hcz53_12, hcz53_13, hcz53_14⟩ := MBlk.c15 BK210.out; obtain ⟨hfz53_0, hfz53_1, hfz53_2, hfz53_3, hfz53_4, hfz53_5, hfz53_6, hfz53_7, hfz53_8, hfz53_9, hfz53_10, hfz53_11, hfz53_12, hfz53_13, hfz53_14⟩ := MBlk.f15 BK210.out) | ((with_reducible refine gate_callee (f := 72) rfl ?_); refine sh_C 14 Tryd.func72 #[.int .i64 a0_0, .int .i64 255] ?_; (with_reducible refine (ip4_within.calls a0_0 255 true _ A3.out).mono ?_); rintro e w' ⟨rfl, ⟨nd, rfl⟩⟩; refine ⟨_, rfl, ?_⟩) | (go_at_call 72; (with_reducible refine (ip4_within.calls a0_5 255 true _ A5.out).mono ?_); rintro e w' ⟨rfl, ⟨nd, rfl⟩⟩) | (go_at_call 72; (with_reducible refine (ip4_within.calls a0_6 255 true _ A7.out).mono ?_); rintro e w' ⟨rfl, ⟨nd, rfl⟩⟩) | (go_at_call 72; (with_reducible refine (ip4_within.calls a0_1 65535 true _ A9.out).mono ?_); rintro e w' ⟨rfl, ⟨nd, rfl⟩⟩) | (go_at_call 72; (with_reducible refine (ip4_within.calls a0_4 8191 true _ A11.out).mono ?_); rintro e w' ⟨rfl, ⟨nd, rfl⟩⟩) | (go_at_call 73; (with_reducible refine (ip4_four.calls a0_7 a0_8 a0_9 false _ A13.out).mono ?_); rintro e w54 ⟨rfl, hb⟩; have n0_ := Aside0.mk (Kd.R_below (by (with_reducible repeat (first | apply Kd.R_alloc | apply Kd.R_drewN | apply Kd.R_drew)); exact HO214.out) hb); have n1_ := sh_L BK210 hb; have n2_ := sh_S HB hb; clear HO214; clear BK210; clear HB; have HO214 := n0_; have BK210 := n1_; have HB := n2_; clear n0_ n1_ n2_; (try clear hb); (try clear hb2); (try clear hk); (try clear hi)))
       go_ret
       exact ⟨by first | rfl | (simp [errW_none, errW_some] <;> rfl) | (simp [*, errW_none, errW_some] <;> rfl), by repeat (first | (with_reducible first | exact HB.out | apply below_alloc | apply pw_below_drewN | apply below_drew1 | refine below_set ?_ GE210.out) | exact HB.out)⟩
     ·
      replace c12 := Bool.eq_false_iff.mpr c12
      subst c12
      rw [if_neg (show ¬ (false = true) by decide)] at H
      obtain rfl := Option.some.inj H
      go_enter Tryd.func39, Tryd.ntmps39
      go_wp2_with (first | ((with_reducible refine gate_dst (N := 1) rfl ?_); (try (refine gate_guard (by rfl) ?_; dsimp only)); refine sh_E 1 37 #[.int .i64 a0_0, .int .i64 a0_1, .bool a0_2, .bool a0_3, .int .i64 a0_4, .int .i64 a0_5, .int .i64 a0_6, .bool a0_7, .int .u64 a0_8, .int .u64 a0_9, .bool a0_10, .int .u64 a0_11, .int .u64 a0_12, .string a0_13, .string a0_14] ?_; intro gb210 hg w55 hbox hb; have BK210 := Aside0.mk hbox; have GW210 := sh_G HB hg; have GE210 := GW210; replace HB := sh_S HB hb; clear hb hbox hg; obtain ⟨hcz56_0, hcz56_1, hcz56_2, hcz56_3, hcz56_4, hcz56_5, hcz56_6, hcz56_7, hcz56_8, hcz56_9, hcz56_10, hcz56_11, hcz56_12, hcz56_13, hcz56_14⟩ := MBlk.c15 BK210.out; obtain ⟨hfz56_0, hfz56_1, hfz56_2, hfz56_3, hfz56_4, hfz56_5, hfz56_6, hfz56_7, hfz56_8, hfz56_9, hfz56_10, hfz56_11, hfz56_12, hfz56_13, hfz56_14⟩ := MBlk.f15 BK210.out) | ((with_reducible refine gate_callee (f := 50) rfl ?_); refine sh_C 9 Tryd.func50 #[.string a0_13] ?_; (with_reducible refine (ip4_Options.calls a0_13 t211 t212 _ A2.out).mono ?_); rintro e w57 ⟨v213, rfl, ho0, hb⟩; refine ⟨_, rfl, ?_⟩; have HO214 := Aside0.mk (Kd.R_lower ho0 (below_size (sh_B HB))); replace BK210 := sh_L BK210 hb; replace HB := sh_S HB hb; (try clear hb); (try clear hb2); (try clear hk); (try clear hi); (try clear ho0); obtain ⟨hcz58_0, hcz58_1, hcz58_2, hcz58_3, hcz58_4, hcz58_5, hcz58_6, hcz58_7, hcz58_8, hcz58_9, hcz58_10, hcz58_11, hcz58_12, hcz58_13, hcz58_14⟩ := MBlk.c15 BK210.out; obtain ⟨hfz58_0, hfz58_1, hfz58_2, hfz58_3, hfz58_4, hfz58_5, hfz58_6, hfz58_7, hfz58_8, hfz58_9, hfz58_10, hfz58_11, hfz58_12, hfz58_13, hfz58_14⟩ := MBlk.f15 BK210.out) | ((with_reducible refine gate_callee (f := 72) rfl ?_); refine sh_C 14 Tryd.func72 #[.int .i64 a0_0, .int .i64 255] ?_; (with_reducible refine (ip4_within.calls a0_0 255 true _ A3.out).mono ?_); rintro e w' ⟨rfl, ⟨nd, rfl⟩⟩; refine ⟨_, rfl, ?_⟩) | (go_at_call 72; (with_reducible refine (ip4_within.calls a0_5 255 true _ A5.out).mono ?_); rintro e w' ⟨rfl, ⟨nd, rfl⟩⟩) | (go_at_call 72; (with_reducible refine (ip4_within.calls a0_6 255 true _ A7.out).mono ?_); rintro e w' ⟨rfl, ⟨nd, rfl⟩⟩) | (go_at_call 72; (with_reducible refine (ip4_within.calls a0_1 65535 true _ A9.out).mono ?_); rintro e w' ⟨rfl, ⟨nd, rfl⟩⟩) | (go_at_call 72; (with_reducible refine (ip4_within.calls a0_4 8191 false _ A11.out).mono ?_); rintro e w' ⟨rfl, ⟨nd, rfl⟩⟩))
      go_ret
      exact ⟨by first | rfl | (simp [errW_none, errW_some] <;> rfl) | (simp [*, errW_none, errW_some] <;> rfl), by repeat (first | (with_reducible first | exact HB.out | apply below_alloc | apply pw_below_drewN | apply below_drew1 | refine below_set ?_ GE210.out) | exact HB.out)⟩
    ·
     replace c10 := Bool.eq_false_iff.mpr c10
     subst c10
     rw [if_neg (show ¬ (false = true) by decide)] at H
     obtain rfl := Option.some.inj H
     go_enter Tryd.func39, Tryd.ntmps39
     go_wp2_with (first | ((with_reducible refine gate_dst (N := 1) rfl ?_); (try (refine gate_guard (by rfl) ?_; dsimp only)); refine sh_E 1 37 #[.int .i64 a0_0, .int .i64 a0_1, .bool a0_2, .bool a0_3, .int .i64 a0_4, .int .i64 a0_5, .int .i64 a0_6, .bool a0_7, .int .u64 a0_8, .int .u64 a0_9, .bool a0_10, .int .u64 a0_11, .int .u64 a0_12, .string a0_13, .string a0_14] ?_; intro gb210 hg w59 hbox hb; have BK210 := Aside0.mk hbox; have GW210 := sh_G HB hg; have GE210 := GW210; replace HB := sh_S HB hb; clear hb hbox hg; obtain ⟨hcz60_0, hcz60_1, hcz60_2, hcz60_3, hcz60_4, hcz60_5, hcz60_6, hcz60_7, hcz60_8, hcz60_9, hcz60_10, hcz60_11, hcz60_12, hcz60_13, hcz60_14⟩ := MBlk.c15 BK210.out; obtain ⟨hfz60_0, hfz60_1, hfz60_2, hfz60_3, hfz60_4, hfz60_5, hfz60_6, hfz60_7, hfz60_8, hfz60_9, hfz60_10, hfz60_11, hfz60_12, hfz60_13, hfz60_14⟩ := MBlk.f15 BK210.out) | ((with_reducible refine gate_callee (f := 50) rfl ?_); refine sh_C 9 Tryd.func50 #[.string a0_13] ?_; (with_reducible refine (ip4_Options.calls a0_13 t211 t212 _ A2.out).mono ?_); rintro e w61 ⟨v213, rfl, ho0, hb⟩; refine ⟨_, rfl, ?_⟩; have HO214 := Aside0.mk (Kd.R_lower ho0 (below_size (sh_B HB))); replace BK210 := sh_L BK210 hb; replace HB := sh_S HB hb; (try clear hb); (try clear hb2); (try clear hk); (try clear hi); (try clear ho0); obtain ⟨hcz62_0, hcz62_1, hcz62_2, hcz62_3, hcz62_4, hcz62_5, hcz62_6, hcz62_7, hcz62_8, hcz62_9, hcz62_10, hcz62_11, hcz62_12, hcz62_13, hcz62_14⟩ := MBlk.c15 BK210.out; obtain ⟨hfz62_0, hfz62_1, hfz62_2, hfz62_3, hfz62_4, hfz62_5, hfz62_6, hfz62_7, hfz62_8, hfz62_9, hfz62_10, hfz62_11, hfz62_12, hfz62_13, hfz62_14⟩ := MBlk.f15 BK210.out) | ((with_reducible refine gate_callee (f := 72) rfl ?_); refine sh_C 14 Tryd.func72 #[.int .i64 a0_0, .int .i64 255] ?_; (with_reducible refine (ip4_within.calls a0_0 255 true _ A3.out).mono ?_); rintro e w' ⟨rfl, ⟨nd, rfl⟩⟩; refine ⟨_, rfl, ?_⟩) | (go_at_call 72; (with_reducible refine (ip4_within.calls a0_5 255 true _ A5.out).mono ?_); rintro e w' ⟨rfl, ⟨nd, rfl⟩⟩) | (go_at_call 72; (with_reducible refine (ip4_within.calls a0_6 255 true _ A7.out).mono ?_); rintro e w' ⟨rfl, ⟨nd, rfl⟩⟩) | (go_at_call 72; (with_reducible refine (ip4_within.calls a0_1 65535 false _ A9.out).mono ?_); rintro e w' ⟨rfl, ⟨nd, rfl⟩⟩))
     go_ret
     exact ⟨by first | rfl | (simp [errW_none, errW_some] <;> rfl) | (simp [*, errW_none, errW_some] <;> rfl), by repeat (first | (with_reducible first | exact HB.out | apply below_alloc | apply pw_below_drewN | apply below_drew1 | refine below_set ?_ GE210.out) | exact HB.out)⟩
   ·
    replace c8 := Bool.eq_false_iff.mpr c8
    subst c8
    rw [if_neg (show ¬ (false = true) by decide)] at H
    obtain rfl := Option.some.inj H
    go_enter Tryd.func39, Tryd.ntmps39
    go_wp2_with (first | ((with_reducible refine gate_dst (N := 1) rfl ?_); (try (refine gate_guard (by rfl) ?_; dsimp only)); refine sh_E 1 37 #[.int .i64 a0_0, .int .i64 a0_1, .bool a0_2, .bool a0_3, .int .i64 a0_4, .int .i64 a0_5, .int .i64 a0_6, .bool a0_7, .int .u64 a0_8, .int .u64 a0_9, .bool a0_10, .int .u64 a0_11, .int .u64 a0_12, .string a0_13, .string a0_14] ?_; intro gb210 hg w63 hbox hb; have BK210 := Aside0.mk hbox; have GW210 := sh_G HB hg; have GE210 := GW210; replace HB := sh_S HB hb; clear hb hbox hg; obtain ⟨hcz64_0, hcz64_1, hcz64_2, hcz64_3, hcz64_4, hcz64_5, hcz64_6, hcz64_7, hcz64_8, hcz64_9, hcz64_10, hcz64_11, hcz64_12, hcz64_13, hcz64_14⟩ := MBlk.c15 BK210.out; obtain ⟨hfz64_0, hfz64_1, hfz64_2, hfz64_3, hfz64_4, hfz64_5, hfz64_6, hfz64_7, hfz64_8, hfz64_9, hfz64_10, hfz64_11, hfz64_12, hfz64_13, hfz64_14⟩ := MBlk.f15 BK210.out) | ((with_reducible refine gate_callee (f := 50) rfl ?_); refine sh_C 9 Tryd.func50 #[.string a0_13] ?_; (with_reducible refine (ip4_Options.calls a0_13 t211 t212 _ A2.out).mono ?_); rintro e w65 ⟨v213, rfl, ho0, hb⟩; refine ⟨_, rfl, ?_⟩; have HO214 := Aside0.mk (Kd.R_lower ho0 (below_size (sh_B HB))); replace BK210 := sh_L BK210 hb; replace HB := sh_S HB hb; (try clear hb); (try clear hb2); (try clear hk); (try clear hi); (try clear ho0); obtain ⟨hcz66_0, hcz66_1, hcz66_2, hcz66_3, hcz66_4, hcz66_5, hcz66_6, hcz66_7, hcz66_8, hcz66_9, hcz66_10, hcz66_11, hcz66_12, hcz66_13, hcz66_14⟩ := MBlk.c15 BK210.out; obtain ⟨hfz66_0, hfz66_1, hfz66_2, hfz66_3, hfz66_4, hfz66_5, hfz66_6, hfz66_7, hfz66_8, hfz66_9, hfz66_10, hfz66_11, hfz66_12, hfz66_13, hfz66_14⟩ := MBlk.f15 BK210.out) | ((with_reducible refine gate_callee (f := 72) rfl ?_); refine sh_C 14 Tryd.func72 #[.int .i64 a0_0, .int .i64 255] ?_; (with_reducible refine (ip4_within.calls a0_0 255 true _ A3.out).mono ?_); rintro e w' ⟨rfl, ⟨nd, rfl⟩⟩; refine ⟨_, rfl, ?_⟩) | (go_at_call 72; (with_reducible refine (ip4_within.calls a0_5 255 true _ A5.out).mono ?_); rintro e w' ⟨rfl, ⟨nd, rfl⟩⟩) | (go_at_call 72; (with_reducible refine (ip4_within.calls a0_6 255 false _ A7.out).mono ?_); rintro e w' ⟨rfl, ⟨nd, rfl⟩⟩))
    go_ret
    exact ⟨by first | rfl | (simp [errW_none, errW_some] <;> rfl) | (simp [*, errW_none, errW_some] <;> rfl), by repeat (first | (with_reducible first | exact HB.out | apply below_alloc | apply pw_below_drewN | apply below_drew1 | refine below_set ?_ GE210.out) | exact HB.out)⟩
  ·
   replace c6 := Bool.eq_false_iff.mpr c6
   subst c6
   rw [if_neg (show ¬ (false = true) by decide)] at H
   obtain rfl := Option.some.inj H
   go_enter Tryd.func39, Tryd.ntmps39
   go_wp2_with (first | ((with_reducible refine gate_dst (N := 1) rfl ?_); (try (refine gate_guard (by rfl) ?_; dsimp only)); refine sh_E 1 37 #[.int .i64 a0_0, .int .i64 a0_1, .bool a0_2, .bool a0_3, .int .i64 a0_4, .int .i64 a0_5, .int .i64 a0_6, .bool a0_7, .int .u64 a0_8, .int .u64 a0_9, .bool a0_10, .int .u64 a0_11, .int .u64 a0_12, .string a0_13, .string a0_14] ?_; intro gb210 hg w67 hbox hb; have BK210 := Aside0.mk hbox; have GW210 := sh_G HB hg; have GE210 := GW210; replace HB := sh_S HB hb; clear hb hbox hg; obtain ⟨hcz68_0, hcz68_1, hcz68_2, hcz68_3, hcz68_4, hcz68_5, hcz68_6, hcz68_7, hcz68_8, hcz68_9, hcz68_10, hcz68_11, hcz68_12, hcz68_13, hcz68_14⟩ := MBlk.c15 BK210.out; obtain ⟨hfz68_0, hfz68_1, hfz68_2, hfz68_3, hfz68_4, hfz68_5, hfz68_6, hfz68_7, hfz68_8, hfz68_9, hfz68_10, hfz68_11, hfz68_12, hfz68_13, hfz68_14⟩ := MBlk.f15 BK210.out) | ((with_reducible refine gate_callee (f := 50) rfl ?_); refine sh_C 9 Tryd.func50 #[.string a0_13] ?_; (with_reducible refine (ip4_Options.calls a0_13 t211 t212 _ A2.out).mono ?_); rintro e w69 ⟨v213, rfl, ho0, hb⟩; refine ⟨_, rfl, ?_⟩; have HO214 := Aside0.mk (Kd.R_lower ho0 (below_size (sh_B HB))); replace BK210 := sh_L BK210 hb; replace HB := sh_S HB hb; (try clear hb); (try clear hb2); (try clear hk); (try clear hi); (try clear ho0); obtain ⟨hcz70_0, hcz70_1, hcz70_2, hcz70_3, hcz70_4, hcz70_5, hcz70_6, hcz70_7, hcz70_8, hcz70_9, hcz70_10, hcz70_11, hcz70_12, hcz70_13, hcz70_14⟩ := MBlk.c15 BK210.out; obtain ⟨hfz70_0, hfz70_1, hfz70_2, hfz70_3, hfz70_4, hfz70_5, hfz70_6, hfz70_7, hfz70_8, hfz70_9, hfz70_10, hfz70_11, hfz70_12, hfz70_13, hfz70_14⟩ := MBlk.f15 BK210.out) | ((with_reducible refine gate_callee (f := 72) rfl ?_); refine sh_C 14 Tryd.func72 #[.int .i64 a0_0, .int .i64 255] ?_; (with_reducible refine (ip4_within.calls a0_0 255 true _ A3.out).mono ?_); rintro e w' ⟨rfl, ⟨nd, rfl⟩⟩; refine ⟨_, rfl, ?_⟩) | (go_at_call 72; (with_reducible refine (ip4_within.calls a0_5 255 false _ A5.out).mono ?_); rintro e w' ⟨rfl, ⟨nd, rfl⟩⟩))
   go_ret
   exact ⟨by first | rfl | (simp [errW_none, errW_some] <;> rfl) | (simp [*, errW_none, errW_some] <;> rfl), by repeat (first | (with_reducible first | exact HB.out | apply below_alloc | apply pw_below_drewN | apply below_drew1 | refine below_set ?_ GE210.out) | exact HB.out)⟩
 ·
  replace c4 := Bool.eq_false_iff.mpr c4
  subst c4
  rw [if_neg (show ¬ (false = true) by decide)] at H
  obtain rfl := Option.some.inj H
  go_enter Tryd.func39, Tryd.ntmps39
  go_wp2_with (first | ((with_reducible refine gate_dst (N := 1) rfl ?_); (try (refine gate_guard (by rfl) ?_; dsimp only)); refine sh_E 1 37 #[.int .i64 a0_0, .int .i64 a0_1, .bool a0_2, .bool a0_3, .int .i64 a0_4, .int .i64 a0_5, .int .i64 a0_6, .bool a0_7, .int .u64 a0_8, .int .u64 a0_9, .bool a0_10, .int .u64 a0_11, .int .u64 a0_12, .string a0_13, .string a0_14] ?_; intro gb210 hg w71 hbox hb; have BK210 := Aside0.mk hbox; have GW210 := sh_G HB hg; have GE210 := GW210; replace HB := sh_S HB hb; clear hb hbox hg; obtain ⟨hcz72_0, hcz72_1, hcz72_2, hcz72_3, hcz72_4, hcz72_5, hcz72_6, hcz72_7, hcz72_8, hcz72_9, hcz72_10, hcz72_11, hcz72_12, hcz72_13, hcz72_14⟩ := MBlk.c15 BK210.out; obtain ⟨hfz72_0, hfz72_1, hfz72_2, hfz72_3, hfz72_4, hfz72_5, hfz72_6, hfz72_7, hfz72_8, hfz72_9, hfz72_10, hfz72_11, hfz72_12, hfz72_13, hfz72_14⟩ := MBlk.f15 BK210.out) | ((with_reducible refine gate_callee (f := 50) rfl ?_); refine sh_C 9 Tryd.func50 #[.string a0_13] ?_; (with_reducible refine (ip4_Options.calls a0_13 t211 t212 _ A2.out).mono ?_); rintro e w73 ⟨v213, rfl, ho0, hb⟩; refine ⟨_, rfl, ?_⟩; have HO214 := Aside0.mk (Kd.R_lower ho0 (below_size (sh_B HB))); replace BK210 := sh_L BK210 hb; replace HB := sh_S HB hb; (try clear hb); (try clear hb2); (try clear hk); (try clear hi); (try clear ho0); obtain ⟨hcz74_0, hcz74_1, hcz74_2, hcz74_3, hcz74_4, hcz74_5, hcz74_6, hcz74_7, hcz74_8, hcz74_9, hcz74_10, hcz74_11, hcz74_12, hcz74_13, hcz74_14⟩ := MBlk.c15 BK210.out; obtain ⟨hfz74_0, hfz74_1, hfz74_2, hfz74_3, hfz74_4, hfz74_5, hfz74_6, hfz74_7, hfz74_8, hfz74_9, hfz74_10, hfz74_11, hfz74_12, hfz74_13, hfz74_14⟩ := MBlk.f15 BK210.out) | ((with_reducible refine gate_callee (f := 72) rfl ?_); refine sh_C 14 Tryd.func72 #[.int .i64 a0_0, .int .i64 255] ?_; (with_reducible refine (ip4_within.calls a0_0 255 false _ A3.out).mono ?_); rintro e w' ⟨rfl, ⟨nd, rfl⟩⟩; refine ⟨_, rfl, ?_⟩))
  go_ret
  exact ⟨by first | rfl | (simp [errW_none, errW_some] <;> rfl) | (simp [*, errW_none, errW_some] <;> rfl), by repeat (first | (with_reducible first | exact HB.out | apply below_alloc | apply pw_below_drewN | apply below_drew1 | refine below_set ?_ GE210.out) | exact HB.out)⟩

/-! ### ip4_bit: function 40 -/
def ip4_bit.f (a0 : Bool) (a1 : Int) : Option (Int) := if a0 = true then (some a1) else (some 0)
set_option maxHeartbeats 8000000 in
set_option maxRecDepth 100000 in
theorem ip4_bit.calls (a0 : Bool) (a1 : Int) (r : Int) (w : World) (h : ip4_bit.f a0 a1 = some r) :
  Calls Tryd.prog 40 #[.bool a0, .int .i64 a1] w fun e w' => e = .returned (.int .i64 r) ∧ Drawn0 w w' := by
 have H : (if a0 = true then (some a1) else (some 0)) = some r := h
 clear h
 by_cases c3 : a0 = true
 ·
  subst c3
  rw [if_pos rfl] at H
  obtain rfl := Option.some.inj H
  go_enter Tryd.func40, Tryd.ntmps40
  go_wp2
  go_ret
  exact ⟨by first | rfl | (simp; done) | (simp [*]; done), by repeat (first | exact Drawn0.refl _ | apply Drawn0.step)⟩
 ·
  replace c3 := Bool.eq_false_iff.mpr c3
  subst c3
  rw [if_neg (show ¬ (false = true) by decide)] at H
  obtain rfl := Option.some.inj H
  go_enter Tryd.func40, Tryd.ntmps40
  go_wp2
  go_ret
  exact ⟨by first | rfl | (simp; done) | (simp [*]; done), by repeat (first | exact Drawn0.refl _ | apply Drawn0.step)⟩

/-! ### tally_Check: function 42 -/
def tally_Check.f (k : Nat) (l0 : List (List Int)) : Option (Int) := (tally_Sum.f k l0).bind fun t222 => (some (IntKind.u16.wrap (65535 - t222)))
theorem tally_Check.mono : ∀ a0 k, LeO (tally_Check.f k a0) (tally_Check.f (k + 1) a0) := by
 intro a0 k
 unfold tally_Check.f
 repeat' first
   | (with_reducible exact tally_Sum.mono _ _)
   | (with_reducible exact LeO.refl _)
   | (with_reducible exact LeO.none _)
   | (with_reducible refine LeO.ite ?_ ?_)
   | (with_reducible refine LeO.bind ?_ (fun _ => ?_))
   | exact tally_Sum.mono _ _
   | exact LeO.none _
   | refine LeO.ite ?_ ?_
   | refine LeO.bind ?_ (fun _ => ?_)
set_option maxHeartbeats 8000000 in
set_option maxRecDepth 100000 in
theorem tally_Check.calls (k : Nat) (A0 : Option Addr) (c0 : Nat) (l0 : List (List Int)) (r : Int) (w : World) (hr0 : Kd.C (Kd.slice 5 (Kd.int .u8)) w A0 l0.length l0) (hc0 : l0.length ≤ c0) (h : tally_Check.f k l0 = some r) :
  Calls Tryd.prog 42 #[.slice A0 l0.length c0] w fun e w' => e = .returned (.int .u16 r) ∧ Drawn0 w w' := by
 have HR0 := Aside0.mk hr0
 have HC0 := Aside0.mk hc0
 clear hr0 hc0
 have H : ((tally_Sum.f k l0).bind fun t222 => (some (IntKind.u16.wrap (65535 - t222)))) = some r := h
 clear h
 replace H := Option.bind_eq_some_iff.mp H
 obtain ⟨t222, A20, H⟩ := H
 have A2 := Aside0.mk A20
 clear A20
 obtain rfl := Option.some.inj H
 go_enter Tryd.func42, Tryd.ntmps42
 go_wp2_with (first | ((with_reducible refine gate_callee (f := 47) rfl ?_); refine sh_C 4 Tryd.func47 #[.slice A0 l0.length c0] ?_; (with_reducible refine (tally_Sum.calls k _ _ l0 t222 _ ?side1 ?side2 A2.out).mono ?_); (case side1 => repeat (first | exact HR0.out | (with_reducible refine Kd.C_alloc ?_ _) | (with_reducible refine Kd.C_drewN ?_ _) | (with_reducible refine Kd.C_drew ?_))); (case side2 => exact HC0.out); rintro e w' ⟨rfl, ⟨nd, rfl⟩⟩; refine ⟨_, rfl, ?_⟩))
 go_ret
 exact ⟨by first | rfl | (simp; done) | (simp [*]; done), by repeat (first | exact Drawn0.refl _ | apply Drawn0.step)⟩

/-! ### ip4_Lay: function 17 (by hand) -/
theorem ip4_Lay.put {l : List Int} {n : Int} {k : Int} {m : Nat} (hk : octet_Put.wid k = m) (hl : l.length ≤ 140737488355200) : octet_Put.f l k n = some (l ++ MBe.be n m) := by
 unfold octet_Put.f; rw [if_pos hl, hk]
theorem ip4_Lay.wu {n : Int} (h0 : 0 ≤ n) (h1 : n < 18446744073709551616) : IntKind.u64.wrap n = n := by
 simp only [IntKind.wrap, IntKind.signed, IntKind.bits, Bool.false_and, Bool.false_eq_true, if_false]; omega
theorem ip4_Lay.w8 {n : Int} (h0 : 0 ≤ n) (h1 : n < 256) : IntKind.u8.wrap n = n := by
 simp only [IntKind.wrap, IntKind.signed, IntKind.bits, Bool.false_and, Bool.false_eq_true, if_false]; omega
theorem ip4_Lay.w8m (n : Int) : IntKind.u8.wrap n = n % 256 := by
 simp only [IntKind.wrap, IntKind.signed, IntKind.bits, Bool.false_and, Bool.false_eq_true, if_false]; rfl
/-- Numbers of some widths, one behind the other. -/
def ip4_Lay.cat : List (Nat × Int) → List Int
 | [] => []
 | x :: l => MBe.be x.2 x.1 ++ ip4_Lay.cat l
theorem ip4_Lay.cat_append : ∀ (a b : List (Nat × Int)), ip4_Lay.cat (a ++ b) = ip4_Lay.cat a ++ ip4_Lay.cat b
 | [], b => rfl
 | x :: a, b => by rw [List.cons_append, ip4_Lay.cat, ip4_Lay.cat, ip4_Lay.cat_append a b, List.append_assoc]
/-- The bits of a piece, as one number. -/
def ip4_Lay.bits (df mf : Bool) (off : Int) : Int := Go.bits .or .i64 (Go.bits .or .i64 off (if df = true then 16384 else 0)) (if mf = true then 8192 else 0)
/-- The numbers of a header. -/
def ip4_Lay.ns (tos id bs ttl proto src dst ol dl : Int) : List (Nat × Int) := [(1, 64 + (20 + ol) / 4), (1, tos), (2, 20 + ol + dl), (2, id), (2, bs), (1, ttl), (1, proto), (2, 0), (4, src), (4, dst)]
theorem ip4_Lay.cat_length (tos id bs ttl proto src dst ol dl : Int) : (ip4_Lay.cat (ip4_Lay.ns tos id bs ttl proto src dst ol dl)).length = 20 := by
 simp [ip4_Lay.ns, ip4_Lay.cat, MBe.be_length]
/-- Two bytes in the place of those at 10. -/
def ip4_Lay.mend (l : List Int) (c : Int) : List Int := (l.set 10 (c / 256)).set 11 (c % 256)
def ip4_Lay.f (k : Nat) (tos id : Int) (df mf : Bool) (off ttl proto : Int) (b1 : Bool) (h1 src : Int) (b2 : Bool) (h2 dst : Int) (opts data : ByteArray) : Option (ByteArray × Int) :=
 (ip4_may.f tos id df mf off ttl proto b1 h1 src b2 h2 dst opts data).bind fun m => if m = false then some (⟨#[]⟩, 50) else if ¬ (opts.size ≤ 40 ∧ data.size ≤ 140737488355328) then none else if 65535 < 20 + (opts.size : Int) + (data.size : Int) then some (⟨#[]⟩, 53) else
 if ¬ (0 ≤ src ∧ src ≤ 4294967295 ∧ 0 ≤ dst ∧ dst ≤ 4294967295 ∧ 0 ≤ tos ∧ tos ≤ 255 ∧ 0 ≤ id ∧ id ≤ 65535 ∧ 0 ≤ ttl ∧ ttl ≤ 255 ∧ 0 ≤ proto ∧ proto ≤ 255 ∧ 0 ≤ ip4_Lay.bits df mf off ∧ ip4_Lay.bits df mf off ≤ 65535) then none else
 (tally_Check.f k [ip4_Lay.cat (ip4_Lay.ns tos id (ip4_Lay.bits df mf off) ttl proto src dst opts.size data.size) ++ bytesOf opts]).bind fun c => if ¬ (0 ≤ c ∧ c ≤ 65535) then none else
 some (strOfNums (ip4_Lay.mend (ip4_Lay.cat (ip4_Lay.ns tos id (ip4_Lay.bits df mf off) ttl proto src dst opts.size data.size) ++ bytesOf opts) c ++ bytesOf data), 0)
set_option maxHeartbeats 4000000 in
set_option maxRecDepth 100000 in
theorem ip4_Lay.good (k : Nat) (tos id : Int) (df mf : Bool) (off ttl proto : Int) (b1 : Bool) (h1 src : Int) (b2 : Bool) (h2 dst : Int) (opts data : ByteArray) (c bs : Int) (w : World)
  (hm : ip4_may.f tos id df mf off ttl proto b1 h1 src b2 h2 dst opts data = some true) (hs : 20 + opts.size + data.size ≤ 65535) (hr : 0 ≤ src ∧ src ≤ 4294967295) (hr2 : 0 ≤ dst ∧ dst ≤ 4294967295) (ht : 0 ≤ tos) (ht2 : tos ≤ 255) (hi : 0 ≤ id) (hi2 : id ≤ 65535) (htl : 0 ≤ ttl) (htl2 : ttl ≤ 255) (hp : 0 ≤ proto) (hp2 : proto ≤ 255)
  (hb : ip4_Lay.bits df mf off = bs) (hb0 : 0 ≤ bs) (hb1 : bs ≤ 65535)
  (hc : tally_Check.f k [ip4_Lay.cat (ip4_Lay.ns tos id bs ttl proto src dst opts.size data.size) ++ bytesOf opts] = some c) (hc0 : 0 ≤ c) (hc1 : c ≤ 65535) :
  Calls Tryd.prog 17 #[.agg #[.int .i64 tos, .int .i64 id, .bool df, .bool mf, .int .i64 off, .int .i64 ttl, .int .i64 proto, .bool b1, .int .u64 h1, .int .u64 src, .bool b2, .int .u64 h2, .int .u64 dst, .string opts, .string data]] w fun e w' => e = .returned (.tuple #[.string (strOfNums (ip4_Lay.mend (ip4_Lay.cat (ip4_Lay.ns tos id bs ttl proto src dst opts.size data.size) ++ bytesOf opts) c ++ bytesOf data)), .int .i64 0]) ∧ Below w.heap.size w w' := by
 obtain ⟨wb, hwb⟩ : ∃ wb, w.alloc (.cells #[.int .i64 tos, .int .i64 id, .bool df, .bool mf, .int .i64 off, .int .i64 ttl, .int .i64 proto, .bool b1, .int .u64 h1, .int .u64 src, .bool b2, .int .u64 h2, .int .u64 dst, .string opts, .string data] 37) = wb := ⟨_, rfl⟩
 have HBW := Aside0.mk (show Below w.heap.size w wb by rw [← hwb]; exact below_alloc (Below.refl _ _) _)
 have HWS := Aside0.mk (show wb.heap.size = w.heap.size + 1 by rw [← hwb]; simp [go_sem])
 have HX := Aside0.mk (show wb.heap[w.heap.size]? = some (.cells #[.int .i64 tos, .int .i64 id, .bool df, .bool mf, .int .i64 off, .int .i64 ttl, .int .i64 proto, .bool b1, .int .u64 h1, .int .u64 src, .bool b2, .int .u64 h2, .int .u64 dst, .string opts, .string data] 37 (0, 0)) by rw [← hwb]; exact heap_alloc_new _ _)
 have hu26 := Tryd.underlying37
 have hu24 := Tryd.underlying28
 have x0 := MStr.block_cell (j := 0) HX.out rfl; have x1 := MStr.block_cell (j := 1) HX.out rfl; have x2 := MStr.block_cell (j := 2) HX.out rfl; have x3 := MStr.block_cell (j := 3) HX.out rfl; have x4 := MStr.block_cell (j := 4) HX.out rfl; have x5 := MStr.block_cell (j := 5) HX.out rfl; have x6 := MStr.block_cell (j := 6) HX.out rfl; have x7 := MStr.block_cell (j := 7) HX.out rfl; have x8 := MStr.block_cell (j := 8) HX.out rfl; have x9 := MStr.block_cell (j := 9) HX.out rfl; have x10 := MStr.block_cell (j := 10) HX.out rfl; have x11 := MStr.block_cell (j := 11) HX.out rfl; have x12 := MStr.block_cell (j := 12) HX.out rfl; have x13 := MStr.block_cell (j := 13) HX.out rfl; have x14 := MStr.block_cell (j := 14) HX.out rfl
 have HM := Aside0.mk hm; have HC := Aside0.mk hc; have HBS := Aside0.mk hb; have HS := Aside0.mk hs
 obtain ⟨s0, s1⟩ := hr; obtain ⟨d0, d1⟩ := hr2
 clear hm hc
 go_enter Tryd.func17, Tryd.ntmps17
 go_wp2_with fail
 clear hwb
 refine (ip4_may.calls _ _ _ _ _ _ _ _ _ _ _ _ _ _ _ true _ HM.out).mono ?_
 rintro e w2 ⟨rfl, hbl⟩
 replace HX := Aside0.mk (MStr.block_below HX.out hbl)
 have HB := Aside0.mk (below_step HBW.out hbl)
 have HWS2 := Aside0.mk (show w.heap.size < w2.heap.size by have := HWS.out; have := hbl.size; omega)
 clear hbl x0 x1 x2 x3 x4 x5 x6 x7 x8 x9 x10 x11 x12 x13 x14
 have x0 := MStr.block_cell (j := 0) HX.out rfl; have x1 := MStr.block_cell (j := 1) HX.out rfl; have x2 := MStr.block_cell (j := 2) HX.out rfl; have x3 := MStr.block_cell (j := 3) HX.out rfl; have x4 := MStr.block_cell (j := 4) HX.out rfl; have x5 := MStr.block_cell (j := 5) HX.out rfl; have x6 := MStr.block_cell (j := 6) HX.out rfl; have x7 := MStr.block_cell (j := 7) HX.out rfl; have x8 := MStr.block_cell (j := 8) HX.out rfl; have x9 := MStr.block_cell (j := 9) HX.out rfl; have x10 := MStr.block_cell (j := 10) HX.out rfl; have x11 := MStr.block_cell (j := 11) HX.out rfl; have x12 := MStr.block_cell (j := 12) HX.out rfl; have x13 := MStr.block_cell (j := 13) HX.out rfl; have x14 := MStr.block_cell (j := 14) HX.out rfl
 have t1 : 20 + (opts.size : Int) + (data.size : Int) ≤ 65535 := by omega
 have t2 : (0 : Int) ≤ (opts.size : Int) := by omega
 have t3 : (0 : Int) ≤ (data.size : Int) := by omega
 unfold ip4_Lay.bits at hb
 obtain ⟨fd, hfd⟩ : ∃ fd, (if df = true then (16384 : Int) else 0) = fd := ⟨_, rfl⟩
 obtain ⟨fm, hfm⟩ : ∃ fm, (if mf = true then (8192 : Int) else 0) = fm := ⟨_, rfl⟩
 rw [hfd, hfm] at hb
 have HFD := Aside0.mk (show ip4_bit.f df 16384 = some fd by unfold ip4_bit.f; rw [← hfd]; split <;> rfl)
 have HFM := Aside0.mk (show ip4_bit.f mf 8192 = some fm by unfold ip4_bit.f; rw [← hfm]; split <;> rfl)
 clear hfd hfm
 go_wp2_with fail
 have e1 : IntKind.i64.wrap ((20 + (opts.size : Int)).tdiv 4) = (20 + (opts.size : Int)) / 4 := by simp only [i64_w]; rw [Int.tdiv_eq_ediv_of_nonneg (by omega)]; unfold wrap64; omega
 have e2 : IntKind.i64.wrap (64 + (20 + (opts.size : Int)) / 4) = 64 + (20 + (opts.size : Int)) / 4 := by simp only [i64_w]; unfold wrap64; omega
 have e3 : IntKind.i64.wrap (20 + (opts.size : Int) + (data.size : Int)) = 20 + (opts.size : Int) + (data.size : Int) := by simp only [i64_w]; unfold wrap64; omega
 have e4 : IntKind.i64.wrap src = src := by simp only [i64_w]; unfold wrap64; omega
 have e5 : IntKind.i64.wrap dst = dst := by simp only [i64_w]; unfold wrap64; omega
 go_quiet (first | (go_at_call 40; exact Calls.quiet_of ((ip4_bit.calls _ _ _ _ HFD.out).mono fun _ _ h => ⟨h.1, h.2.out⟩)) | (go_at_call 40; exact Calls.quiet_of ((ip4_bit.calls _ _ _ _ HFM.out).mono fun _ _ h => ⟨h.1, h.2.out⟩)))
 clear x0 x1 x2 x3 x4 x5 x6 x7 x8 x9 x10 x11 x12 x13 x14 e1 e2 e3 e4 e5
 have HFD2 := HFD; clear HFD HFM HFD2
 have i0 : ∀ w, (Instr.index 73 (.agg #[.int .i64 1, .int .i64 (64 + (20 + (opts.size : Int)) / 4), .int .i64 1, .int .i64 (tos), .int .i64 2, .int .i64 (20 + (opts.size : Int) + (data.size : Int)), .int .i64 2, .int .i64 (id), .int .i64 2, .int .i64 (bs), .int .i64 1, .int .i64 (ttl), .int .i64 1, .int .i64 (proto), .int .i64 2, .int .i64 (0), .int .i64 4, .int .i64 (src), .int .i64 4, .int .i64 (dst)]) (.int .i64 0)).run Tryd.prog w = .ok (.agg #[.int .i64 1, .int .i64 (64 + (20 + (opts.size : Int)) / 4)]) w := fun _ => by kernel_rfl
 have i1 : ∀ w, (Instr.index 73 (.agg #[.int .i64 1, .int .i64 (64 + (20 + (opts.size : Int)) / 4), .int .i64 1, .int .i64 (tos), .int .i64 2, .int .i64 (20 + (opts.size : Int) + (data.size : Int)), .int .i64 2, .int .i64 (id), .int .i64 2, .int .i64 (bs), .int .i64 1, .int .i64 (ttl), .int .i64 1, .int .i64 (proto), .int .i64 2, .int .i64 (0), .int .i64 4, .int .i64 (src), .int .i64 4, .int .i64 (dst)]) (.int .i64 1)).run Tryd.prog w = .ok (.agg #[.int .i64 1, .int .i64 (tos)]) w := fun _ => by kernel_rfl
 have i2 : ∀ w, (Instr.index 73 (.agg #[.int .i64 1, .int .i64 (64 + (20 + (opts.size : Int)) / 4), .int .i64 1, .int .i64 (tos), .int .i64 2, .int .i64 (20 + (opts.size : Int) + (data.size : Int)), .int .i64 2, .int .i64 (id), .int .i64 2, .int .i64 (bs), .int .i64 1, .int .i64 (ttl), .int .i64 1, .int .i64 (proto), .int .i64 2, .int .i64 (0), .int .i64 4, .int .i64 (src), .int .i64 4, .int .i64 (dst)]) (.int .i64 2)).run Tryd.prog w = .ok (.agg #[.int .i64 2, .int .i64 (20 + (opts.size : Int) + (data.size : Int))]) w := fun _ => by kernel_rfl
 have i3 : ∀ w, (Instr.index 73 (.agg #[.int .i64 1, .int .i64 (64 + (20 + (opts.size : Int)) / 4), .int .i64 1, .int .i64 (tos), .int .i64 2, .int .i64 (20 + (opts.size : Int) + (data.size : Int)), .int .i64 2, .int .i64 (id), .int .i64 2, .int .i64 (bs), .int .i64 1, .int .i64 (ttl), .int .i64 1, .int .i64 (proto), .int .i64 2, .int .i64 (0), .int .i64 4, .int .i64 (src), .int .i64 4, .int .i64 (dst)]) (.int .i64 3)).run Tryd.prog w = .ok (.agg #[.int .i64 2, .int .i64 (id)]) w := fun _ => by kernel_rfl
 have i4 : ∀ w, (Instr.index 73 (.agg #[.int .i64 1, .int .i64 (64 + (20 + (opts.size : Int)) / 4), .int .i64 1, .int .i64 (tos), .int .i64 2, .int .i64 (20 + (opts.size : Int) + (data.size : Int)), .int .i64 2, .int .i64 (id), .int .i64 2, .int .i64 (bs), .int .i64 1, .int .i64 (ttl), .int .i64 1, .int .i64 (proto), .int .i64 2, .int .i64 (0), .int .i64 4, .int .i64 (src), .int .i64 4, .int .i64 (dst)]) (.int .i64 4)).run Tryd.prog w = .ok (.agg #[.int .i64 2, .int .i64 (bs)]) w := fun _ => by kernel_rfl
 have i5 : ∀ w, (Instr.index 73 (.agg #[.int .i64 1, .int .i64 (64 + (20 + (opts.size : Int)) / 4), .int .i64 1, .int .i64 (tos), .int .i64 2, .int .i64 (20 + (opts.size : Int) + (data.size : Int)), .int .i64 2, .int .i64 (id), .int .i64 2, .int .i64 (bs), .int .i64 1, .int .i64 (ttl), .int .i64 1, .int .i64 (proto), .int .i64 2, .int .i64 (0), .int .i64 4, .int .i64 (src), .int .i64 4, .int .i64 (dst)]) (.int .i64 5)).run Tryd.prog w = .ok (.agg #[.int .i64 1, .int .i64 (ttl)]) w := fun _ => by kernel_rfl
 have i6 : ∀ w, (Instr.index 73 (.agg #[.int .i64 1, .int .i64 (64 + (20 + (opts.size : Int)) / 4), .int .i64 1, .int .i64 (tos), .int .i64 2, .int .i64 (20 + (opts.size : Int) + (data.size : Int)), .int .i64 2, .int .i64 (id), .int .i64 2, .int .i64 (bs), .int .i64 1, .int .i64 (ttl), .int .i64 1, .int .i64 (proto), .int .i64 2, .int .i64 (0), .int .i64 4, .int .i64 (src), .int .i64 4, .int .i64 (dst)]) (.int .i64 6)).run Tryd.prog w = .ok (.agg #[.int .i64 1, .int .i64 (proto)]) w := fun _ => by kernel_rfl
 have i7 : ∀ w, (Instr.index 73 (.agg #[.int .i64 1, .int .i64 (64 + (20 + (opts.size : Int)) / 4), .int .i64 1, .int .i64 (tos), .int .i64 2, .int .i64 (20 + (opts.size : Int) + (data.size : Int)), .int .i64 2, .int .i64 (id), .int .i64 2, .int .i64 (bs), .int .i64 1, .int .i64 (ttl), .int .i64 1, .int .i64 (proto), .int .i64 2, .int .i64 (0), .int .i64 4, .int .i64 (src), .int .i64 4, .int .i64 (dst)]) (.int .i64 7)).run Tryd.prog w = .ok (.agg #[.int .i64 2, .int .i64 (0)]) w := fun _ => by kernel_rfl
 have i8 : ∀ w, (Instr.index 73 (.agg #[.int .i64 1, .int .i64 (64 + (20 + (opts.size : Int)) / 4), .int .i64 1, .int .i64 (tos), .int .i64 2, .int .i64 (20 + (opts.size : Int) + (data.size : Int)), .int .i64 2, .int .i64 (id), .int .i64 2, .int .i64 (bs), .int .i64 1, .int .i64 (ttl), .int .i64 1, .int .i64 (proto), .int .i64 2, .int .i64 (0), .int .i64 4, .int .i64 (src), .int .i64 4, .int .i64 (dst)]) (.int .i64 8)).run Tryd.prog w = .ok (.agg #[.int .i64 4, .int .i64 (src)]) w := fun _ => by kernel_rfl
 have i9 : ∀ w, (Instr.index 73 (.agg #[.int .i64 1, .int .i64 (64 + (20 + (opts.size : Int)) / 4), .int .i64 1, .int .i64 (tos), .int .i64 2, .int .i64 (20 + (opts.size : Int) + (data.size : Int)), .int .i64 2, .int .i64 (id), .int .i64 2, .int .i64 (bs), .int .i64 1, .int .i64 (ttl), .int .i64 1, .int .i64 (proto), .int .i64 2, .int .i64 (0), .int .i64 4, .int .i64 (src), .int .i64 4, .int .i64 (dst)]) (.int .i64 9)).run Tryd.prog w = .ok (.agg #[.int .i64 4, .int .i64 (dst)]) w := fun _ => by kernel_rfl
 have u0 : IntKind.u64.wrap (64 + (20 + (opts.size : Int)) / 4) = 64 + (20 + (opts.size : Int)) / 4 := ip4_Lay.wu (by omega) (by omega)
 have u1 : IntKind.u64.wrap (tos) = tos := ip4_Lay.wu (by omega) (by omega)
 have u2 : IntKind.u64.wrap (20 + (opts.size : Int) + (data.size : Int)) = 20 + (opts.size : Int) + (data.size : Int) := ip4_Lay.wu (by omega) (by omega)
 have u3 : IntKind.u64.wrap (id) = id := ip4_Lay.wu (by omega) (by omega)
 have u4 : IntKind.u64.wrap (bs) = bs := ip4_Lay.wu (by omega) (by omega)
 have u5 : IntKind.u64.wrap (ttl) = ttl := ip4_Lay.wu (by omega) (by omega)
 have u6 : IntKind.u64.wrap (proto) = proto := ip4_Lay.wu (by omega) (by omega)
 have u8 : IntKind.u64.wrap (src) = src := ip4_Lay.wu (by omega) (by omega)
 have u9 : IntKind.u64.wrap (dst) = dst := ip4_Lay.wu (by omega) (by omega)
 go_wp2_with fail
 go_loopg [5, 67] 10 (fun kq v5 v67 w' => ∃ i : Nat, v67 = .int .i64 (i : Int) ∧ Aside0 (10 = i + kq) ∧ Aside0 (Kd.R (Kd.int .u8) 5 w' w2.heap.size (fun _ => True) v5 (ip4_Lay.cat ((ip4_Lay.ns tos id bs ttl proto src dst opts.size data.size).take i))) ∧ Aside0 (w'.heap[w.heap.size]? = some (.cells #[.int .i64 tos, .int .i64 id, .bool df, .bool mf, .int .i64 off, .int .i64 ttl, .int .i64 proto, .bool b1, .int .u64 h1, .int .u64 src, .bool b2, .int .u64 h2, .int .u64 dst, .string opts, .string data] 37 (0, 0))) ∧ Aside0 (Below w2.heap.size w2 w'))
 case atStart => exact ⟨0, rfl, ⟨rfl⟩, ⟨Kd.R_nil _ _ _ _ _⟩, ⟨MStr.block_below HX.out (by repeat (first | (with_reducible first | exact Below.refl _ _ | apply below_alloc | apply pw_below_drewN | apply below_drew1) | exact Below.refl _ _))⟩, ⟨(by repeat (first | (with_reducible first | exact Below.refl _ _ | apply below_alloc | apply pw_below_drewN | apply below_drew1) | exact Below.refl _ _))⟩⟩
 case round =>
  clear HX
  obtain ⟨i, rfl, HI, HO, HX, HB2⟩ := hrel
  have hi := HI.out
  obtain ⟨Li, hLi⟩ : ∃ Li, ip4_Lay.cat ((ip4_Lay.ns tos id bs ttl proto src dst opts.size data.size).take i) = Li := ⟨_, rfl⟩
  have HE := Aside0.mk (show Li.length ≤ 20 by have h := ip4_Lay.cat_length tos id bs ttl proto src dst opts.size data.size; rw [← List.take_append_drop i (ip4_Lay.ns tos id bs ttl proto src dst opts.size data.size), ip4_Lay.cat_append, List.length_append, hLi] at h; omega)
  rw [hLi] at HO
  have HLi := Aside0.mk hLi
  clear hLi
  obtain ⟨A4, c4, rfl⟩ := Kd.R_slice HO.out
  cases gk with
  | zero =>
   obtain rfl : 10 = i := by omega
   clear hi HI i0 i1 i2 i3 i4 i5 i6 i7 i8 i9 u0 u1 u2 u3 u4 u5 u6 u8 u9
   have x13 := MStr.block_cell (j := 13) HX.out rfl
   have hcat := ip4_Lay.cat_length tos id bs ttl proto src dst opts.size data.size
   have hL20 : Li.length = 20 := by rw [← HLi.out, show (ip4_Lay.ns tos id bs ttl proto src dst opts.size data.size).take 10 = (ip4_Lay.ns tos id bs ttl proto src dst opts.size data.size) from rfl]; exact hcat
   have HL20 := Aside0.mk hL20; clear hcat hL20
   go_wp2_with (first | ((with_reducible refine gate_builtin (b := .append) (xs := #[.tmp 78, .tmp 80]) rfl ?_); at_builtin; refine MStr.R_append_str (w0 := w2) w2.heap.size rfl (.tmp 78) (.tmp 80) 70 9 5 rfl Tryd.underlying70 Tryd.underlying9 info5 _ Li opts rfl rfl HO.out HB2.out HB2.out.size (by have := HE.out; omega) ?_; intro v9 w9 ho hb hg; have HO9 := Aside0.mk ho; replace HX := Aside0.mk ((hg.block _ (Array.getElem?_eq_some_iff.1 HX.out).1 (fun e => by have h_ := Kd.R_base HO.out _ e.symm; have := HWS2.out; omega)).trans HX.out); clear HO HB2 ho hg x13; have HB2 := Aside0.mk hb; clear hb; obtain ⟨A9, c9, e9⟩ := Kd.R_slice HO9.out; subst e9))
   obtain ⟨L9, hL9⟩ : ∃ L9, Li ++ bytesOf opts = L9 := ⟨_, rfl⟩
   have HL9 := Aside0.mk hL9
   have HN9 := Aside0.mk (show L9.length = 20 + opts.size by rw [← hL9, List.length_append, HL20.out, bytesOf_length])
   rw [hL9] at HO9
   rw [show Li.length + (bytesOf opts).length = L9.length by rw [← hL9, List.length_append]]
   replace HC := Aside0.mk (show tally_Check.f k [L9] = some c by rw [← hL9, ← HLi.out]; exact HC.out)
   clear hL9
   refine Calls.mono (tally_Check.calls k (some _) 1 [L9] c _ (by exact MStr.C_varN (Kd.R_reads' HO9.out).2.2 (Kd.R_reads' HO9.out).2.1 rfl) (Nat.le_refl _) HC.out) ?_
   rintro e w10 ⟨rfl, ⟨nd, rfl⟩⟩
   have HO10 := Aside0.mk (show Kd.R (Kd.int .u8) 5 ((w9.alloc (Obj.cells #[Value.slice A9 L9.length c9] 70)).drewN nd) w2.heap.size (fun _ => True) (.slice A9 L9.length c9) L9 from Kd.R_drewN (Kd.R_alloc HO9.out _) _)
   replace HX := Aside0.mk (show ((w9.alloc (Obj.cells #[Value.slice A9 L9.length c9] 70)).drewN nd).heap[w.heap.size]? = some (.cells #[.int .i64 tos, .int .i64 id, .bool df, .bool mf, .int .i64 off, .int .i64 ttl, .int .i64 proto, .bool b1, .int .u64 h1, .int .u64 src, .bool b2, .int .u64 h2, .int .u64 dst, .string opts, .string data] 37 (0, 0)) from MStr.block_below HX.out (show Below w9.heap.size w9 _ from (by repeat (first | (with_reducible first | exact Below.refl _ _ | apply below_alloc | apply pw_below_drewN | apply below_drew1) | exact Below.refl _ _))))
   replace HB2 := Aside0.mk (show Below w2.heap.size w2 ((w9.alloc (Obj.cells #[Value.slice A9 L9.length c9] 70)).drewN nd) from (sh_B HB2))
   clear HO9
   generalize hW : ((w9.alloc (Obj.cells #[Value.slice A9 L9.length c9] 70)).drewN nd) = W10 at HO10 HX HB2 ⊢
   clear hW
   have f1 : IntKind.u8.wrap (c / 256) = c / 256 := ip4_Lay.w8 (by omega) (by omega)
   have f2 : IntKind.u8.wrap c = c % 256 := ip4_Lay.w8m c
   have hn9 := HN9.out
   obtain ⟨g9, co, eo, gb, gl, cl, hG⟩ := Kd.R_form HO10.out (by omega)
   injection eo with ea_ en_ ec_
   subst ea_; subst ec_; clear en_
   have GB := Aside0.mk gb
   obtain ⟨hx, hf⟩ : W10.cell? ⟨g9, 10, none⟩ = some (.int .u8 (rdOf 0 L9 10)) ∧ W10.frozen? ⟨g9, 10, none⟩ = false := Kd.R_celln 0 HO10.out 10 (by decide) (by omega)
   obtain ⟨hx2, hf2⟩ : W10.cell? ⟨g9, 11, none⟩ = some (.int .u8 (rdOf 0 L9 11)) ∧ W10.frozen? ⟨g9, 11, none⟩ = false := Kd.R_celln 0 HO10.out 11 (by decide) (by omega)
   have q1 : (10 : Int) < (L9.length : Int) := by omega
   have q2 : (11 : Int) < (L9.length : Int) := by omega
   clear gb gl hG hn9
   have HP := Kd.R_putg HO10.out 10 (c / 256)
   have HP2 := Kd.R_putg (show Kd.R (Kd.int .u8) 5 (W10.setCell ⟨g9, 10, none⟩ (.int .u8 (c / 256))) w2.heap.size (fun _ => True) (.slice (some ⟨g9, 0, none⟩) L9.length c9) (L9.set 10 (c / 256)) from HP.1) 11 (c % 256)
   have HG2 := Aside0.mk (show W10.grownBy ((W10.setCell ⟨g9, 10, none⟩ (.int .u8 (c / 256))).setCell ⟨g9, 11, none⟩ (.int .u8 (c % 256))) (some g9) from MReader.grown_trans HP.2 HP2.2)
   have HO12 := Aside0.mk (show Kd.R (Kd.int .u8) 5 ((W10.setCell ⟨g9, 10, none⟩ (.int .u8 (c / 256))).setCell ⟨g9, 11, none⟩ (.int .u8 (c % 256))) w2.heap.size (fun _ => True) (.slice (some ⟨g9, 0, none⟩) L9.length c9) ((L9.set 10 (c / 256)).set 11 (c % 256)) from HP2.1)
   clear HP HP2 HO10
   go_upto_region 15 with (fail)
   clear hx hf hx2 hf2
   replace HX := Aside0.mk ((HG2.out.block _ (Array.getElem?_eq_some_iff.1 HX.out).1 (fun e => by have h_ := GB.out; have := HWS2.out; injection e with e; omega)).trans HX.out)
   replace HB2 := Aside0.mk (show Below w2.heap.size w2 ((W10.setCell ⟨g9, 10, none⟩ (.int .u8 (c / 256))).setCell ⟨g9, 11, none⟩ (.int .u8 (c % 256))) from below_set (below_set HB2.out GB.out) GB.out)
   clear HG2
   generalize hW : ((W10.setCell ⟨g9, 10, none⟩ (.int .u8 (c / 256))).setCell ⟨g9, 11, none⟩ (.int .u8 (c % 256))) = W12 at HO12 HX HB2 ⊢
   clear hW
   have x14 := MStr.block_cell (j := 14) HX.out rfl
   go_wp2_with (first | ((with_reducible refine gate_builtin (b := .append) (xs := #[.tmp 94, .tmp 96]) rfl ?_); at_builtin; refine MStr.R_append_str (w0 := w2) w2.heap.size rfl (.tmp 94) (.tmp 96) 70 9 5 rfl Tryd.underlying70 Tryd.underlying9 info5 _ _ data rfl rfl HO12.out HB2.out HB2.out.size (by rw [List.length_set, List.length_set]; have := HN9.out; omega) ?_; intro v19 w19 ho hb hg; have hcv := own_string (P := Tryd.prog) Tryd.underlying70 Tryd.underlying5 Tryd.underlying9 (Kd.own_of_R ho); clear HO12 HB2 ho hg x14; have HB2 := Aside0.mk hb; clear hb))
   go_ret2
   refine ⟨?_, below_step HB.out HB2.out⟩
   rw [← HL9.out, ← HLi.out]
   rfl
  | succ d =>
   rcases (show i = 0 ∨ i = 1 ∨ i = 2 ∨ i = 3 ∨ i = 4 ∨ i = 5 ∨ i = 6 ∨ i = 7 ∨ i = 8 ∨ i = 9 by omega) with rfl | rfl | rfl | rfl | rfl | rfl | rfl | rfl | rfl | rfl
   ·
     clear hi
     go_wp2_with fail
     refine Calls.mono (octet_Put.calls A4 c4 Li 1 _ _ _ (by exact Kd.C_below (Kd.R_reads' HO.out).2.2 (by repeat (first | (with_reducible first | exact Below.refl _ _ | apply below_alloc | apply pw_below_drewN | apply below_drew1) | exact Below.refl _ _))) (Kd.R_reads' HO.out).2.1 (ip4_Lay.put (m := 1) (by decide) (by have := HE.out; omega))) ?_
     rintro e w5 ⟨v5, rfl, ho, hb⟩
     rw [← HLi.out] at ho
     have HO5 := Aside0.mk (show Kd.R (Kd.int .u8) 5 w5 w2.heap.size (fun _ => True) v5 (ip4_Lay.cat ((ip4_Lay.ns tos id bs ttl proto src dst opts.size data.size).take 1)) by have h := Kd.R_lower ho (show w2.heap.size ≤ _ from (show Below w2.heap.size w2 _ from (sh_B HB2)).size); exact (show ip4_Lay.cat ((ip4_Lay.ns tos id bs ttl proto src dst opts.size data.size).take 1) = ip4_Lay.cat ((ip4_Lay.ns tos id bs ttl proto src dst opts.size data.size).take 0) ++ MBe.be (64 + (20 + (opts.size : Int)) / 4) 1 by rw [show (ip4_Lay.ns tos id bs ttl proto src dst opts.size data.size).take 1 = (ip4_Lay.ns tos id bs ttl proto src dst opts.size data.size).take 0 ++ [(1, 64 + (20 + (opts.size : Int)) / 4)] from rfl, ip4_Lay.cat_append]; simp [ip4_Lay.cat]) ▸ h)
     replace HX := Aside0.mk (MStr.block_below (MStr.block_below HX.out (show Below wr.heap.size wr _ from (by repeat (first | (with_reducible first | exact Below.refl _ _ | apply below_alloc | apply pw_below_drewN | apply below_drew1) | exact Below.refl _ _)))) hb)
     replace HB2 := sh_S HB2 hb
     clear ho hb HO HE
     go_wp2_with fail
     go_roundg d
     case measure => omega
     case rel => exact ⟨1, rfl, ⟨by have := HI.out; omega⟩, ⟨HO5.out⟩, HX, HB2⟩
   ·
     clear hi
     go_wp2_with fail
     refine Calls.mono (octet_Put.calls A4 c4 Li 1 _ _ _ (by exact Kd.C_below (Kd.R_reads' HO.out).2.2 (by repeat (first | (with_reducible first | exact Below.refl _ _ | apply below_alloc | apply pw_below_drewN | apply below_drew1) | exact Below.refl _ _))) (Kd.R_reads' HO.out).2.1 (ip4_Lay.put (m := 1) (by decide) (by have := HE.out; omega))) ?_
     rintro e w5 ⟨v5, rfl, ho, hb⟩
     rw [← HLi.out] at ho
     have HO5 := Aside0.mk (show Kd.R (Kd.int .u8) 5 w5 w2.heap.size (fun _ => True) v5 (ip4_Lay.cat ((ip4_Lay.ns tos id bs ttl proto src dst opts.size data.size).take 2)) by have h := Kd.R_lower ho (show w2.heap.size ≤ _ from (show Below w2.heap.size w2 _ from (sh_B HB2)).size); exact (show ip4_Lay.cat ((ip4_Lay.ns tos id bs ttl proto src dst opts.size data.size).take 2) = ip4_Lay.cat ((ip4_Lay.ns tos id bs ttl proto src dst opts.size data.size).take 1) ++ MBe.be (tos) 1 by rw [show (ip4_Lay.ns tos id bs ttl proto src dst opts.size data.size).take 2 = (ip4_Lay.ns tos id bs ttl proto src dst opts.size data.size).take 1 ++ [(1, tos)] from rfl, ip4_Lay.cat_append]; simp [ip4_Lay.cat]) ▸ h)
     replace HX := Aside0.mk (MStr.block_below (MStr.block_below HX.out (show Below wr.heap.size wr _ from (by repeat (first | (with_reducible first | exact Below.refl _ _ | apply below_alloc | apply pw_below_drewN | apply below_drew1) | exact Below.refl _ _)))) hb)
     replace HB2 := sh_S HB2 hb
     clear ho hb HO HE
     go_wp2_with fail
     go_roundg d
     case measure => omega
     case rel => exact ⟨2, rfl, ⟨by have := HI.out; omega⟩, ⟨HO5.out⟩, HX, HB2⟩
   ·
     clear hi
     go_wp2_with fail
     refine Calls.mono (octet_Put.calls A4 c4 Li 2 _ _ _ (by exact Kd.C_below (Kd.R_reads' HO.out).2.2 (by repeat (first | (with_reducible first | exact Below.refl _ _ | apply below_alloc | apply pw_below_drewN | apply below_drew1) | exact Below.refl _ _))) (Kd.R_reads' HO.out).2.1 (ip4_Lay.put (m := 2) (by decide) (by have := HE.out; omega))) ?_
     rintro e w5 ⟨v5, rfl, ho, hb⟩
     rw [← HLi.out] at ho
     have HO5 := Aside0.mk (show Kd.R (Kd.int .u8) 5 w5 w2.heap.size (fun _ => True) v5 (ip4_Lay.cat ((ip4_Lay.ns tos id bs ttl proto src dst opts.size data.size).take 3)) by have h := Kd.R_lower ho (show w2.heap.size ≤ _ from (show Below w2.heap.size w2 _ from (sh_B HB2)).size); exact (show ip4_Lay.cat ((ip4_Lay.ns tos id bs ttl proto src dst opts.size data.size).take 3) = ip4_Lay.cat ((ip4_Lay.ns tos id bs ttl proto src dst opts.size data.size).take 2) ++ MBe.be (20 + (opts.size : Int) + (data.size : Int)) 2 by rw [show (ip4_Lay.ns tos id bs ttl proto src dst opts.size data.size).take 3 = (ip4_Lay.ns tos id bs ttl proto src dst opts.size data.size).take 2 ++ [(2, 20 + (opts.size : Int) + (data.size : Int))] from rfl, ip4_Lay.cat_append]; simp [ip4_Lay.cat]) ▸ h)
     replace HX := Aside0.mk (MStr.block_below (MStr.block_below HX.out (show Below wr.heap.size wr _ from (by repeat (first | (with_reducible first | exact Below.refl _ _ | apply below_alloc | apply pw_below_drewN | apply below_drew1) | exact Below.refl _ _)))) hb)
     replace HB2 := sh_S HB2 hb
     clear ho hb HO HE
     go_wp2_with fail
     go_roundg d
     case measure => omega
     case rel => exact ⟨3, rfl, ⟨by have := HI.out; omega⟩, ⟨HO5.out⟩, HX, HB2⟩
   ·
     clear hi
     go_wp2_with fail
     refine Calls.mono (octet_Put.calls A4 c4 Li 2 _ _ _ (by exact Kd.C_below (Kd.R_reads' HO.out).2.2 (by repeat (first | (with_reducible first | exact Below.refl _ _ | apply below_alloc | apply pw_below_drewN | apply below_drew1) | exact Below.refl _ _))) (Kd.R_reads' HO.out).2.1 (ip4_Lay.put (m := 2) (by decide) (by have := HE.out; omega))) ?_
     rintro e w5 ⟨v5, rfl, ho, hb⟩
     rw [← HLi.out] at ho
     have HO5 := Aside0.mk (show Kd.R (Kd.int .u8) 5 w5 w2.heap.size (fun _ => True) v5 (ip4_Lay.cat ((ip4_Lay.ns tos id bs ttl proto src dst opts.size data.size).take 4)) by have h := Kd.R_lower ho (show w2.heap.size ≤ _ from (show Below w2.heap.size w2 _ from (sh_B HB2)).size); exact (show ip4_Lay.cat ((ip4_Lay.ns tos id bs ttl proto src dst opts.size data.size).take 4) = ip4_Lay.cat ((ip4_Lay.ns tos id bs ttl proto src dst opts.size data.size).take 3) ++ MBe.be (id) 2 by rw [show (ip4_Lay.ns tos id bs ttl proto src dst opts.size data.size).take 4 = (ip4_Lay.ns tos id bs ttl proto src dst opts.size data.size).take 3 ++ [(2, id)] from rfl, ip4_Lay.cat_append]; simp [ip4_Lay.cat]) ▸ h)
     replace HX := Aside0.mk (MStr.block_below (MStr.block_below HX.out (show Below wr.heap.size wr _ from (by repeat (first | (with_reducible first | exact Below.refl _ _ | apply below_alloc | apply pw_below_drewN | apply below_drew1) | exact Below.refl _ _)))) hb)
     replace HB2 := sh_S HB2 hb
     clear ho hb HO HE
     go_wp2_with fail
     go_roundg d
     case measure => omega
     case rel => exact ⟨4, rfl, ⟨by have := HI.out; omega⟩, ⟨HO5.out⟩, HX, HB2⟩
   ·
     clear hi
     go_wp2_with fail
     refine Calls.mono (octet_Put.calls A4 c4 Li 2 _ _ _ (by exact Kd.C_below (Kd.R_reads' HO.out).2.2 (by repeat (first | (with_reducible first | exact Below.refl _ _ | apply below_alloc | apply pw_below_drewN | apply below_drew1) | exact Below.refl _ _))) (Kd.R_reads' HO.out).2.1 (ip4_Lay.put (m := 2) (by decide) (by have := HE.out; omega))) ?_
     rintro e w5 ⟨v5, rfl, ho, hb⟩
     rw [← HLi.out] at ho
     have HO5 := Aside0.mk (show Kd.R (Kd.int .u8) 5 w5 w2.heap.size (fun _ => True) v5 (ip4_Lay.cat ((ip4_Lay.ns tos id bs ttl proto src dst opts.size data.size).take 5)) by have h := Kd.R_lower ho (show w2.heap.size ≤ _ from (show Below w2.heap.size w2 _ from (sh_B HB2)).size); exact (show ip4_Lay.cat ((ip4_Lay.ns tos id bs ttl proto src dst opts.size data.size).take 5) = ip4_Lay.cat ((ip4_Lay.ns tos id bs ttl proto src dst opts.size data.size).take 4) ++ MBe.be (bs) 2 by rw [show (ip4_Lay.ns tos id bs ttl proto src dst opts.size data.size).take 5 = (ip4_Lay.ns tos id bs ttl proto src dst opts.size data.size).take 4 ++ [(2, bs)] from rfl, ip4_Lay.cat_append]; simp [ip4_Lay.cat]) ▸ h)
     replace HX := Aside0.mk (MStr.block_below (MStr.block_below HX.out (show Below wr.heap.size wr _ from (by repeat (first | (with_reducible first | exact Below.refl _ _ | apply below_alloc | apply pw_below_drewN | apply below_drew1) | exact Below.refl _ _)))) hb)
     replace HB2 := sh_S HB2 hb
     clear ho hb HO HE
     go_wp2_with fail
     go_roundg d
     case measure => omega
     case rel => exact ⟨5, rfl, ⟨by have := HI.out; omega⟩, ⟨HO5.out⟩, HX, HB2⟩
   ·
     clear hi
     go_wp2_with fail
     refine Calls.mono (octet_Put.calls A4 c4 Li 1 _ _ _ (by exact Kd.C_below (Kd.R_reads' HO.out).2.2 (by repeat (first | (with_reducible first | exact Below.refl _ _ | apply below_alloc | apply pw_below_drewN | apply below_drew1) | exact Below.refl _ _))) (Kd.R_reads' HO.out).2.1 (ip4_Lay.put (m := 1) (by decide) (by have := HE.out; omega))) ?_
     rintro e w5 ⟨v5, rfl, ho, hb⟩
     rw [← HLi.out] at ho
     have HO5 := Aside0.mk (show Kd.R (Kd.int .u8) 5 w5 w2.heap.size (fun _ => True) v5 (ip4_Lay.cat ((ip4_Lay.ns tos id bs ttl proto src dst opts.size data.size).take 6)) by have h := Kd.R_lower ho (show w2.heap.size ≤ _ from (show Below w2.heap.size w2 _ from (sh_B HB2)).size); exact (show ip4_Lay.cat ((ip4_Lay.ns tos id bs ttl proto src dst opts.size data.size).take 6) = ip4_Lay.cat ((ip4_Lay.ns tos id bs ttl proto src dst opts.size data.size).take 5) ++ MBe.be (ttl) 1 by rw [show (ip4_Lay.ns tos id bs ttl proto src dst opts.size data.size).take 6 = (ip4_Lay.ns tos id bs ttl proto src dst opts.size data.size).take 5 ++ [(1, ttl)] from rfl, ip4_Lay.cat_append]; simp [ip4_Lay.cat]) ▸ h)
     replace HX := Aside0.mk (MStr.block_below (MStr.block_below HX.out (show Below wr.heap.size wr _ from (by repeat (first | (with_reducible first | exact Below.refl _ _ | apply below_alloc | apply pw_below_drewN | apply below_drew1) | exact Below.refl _ _)))) hb)
     replace HB2 := sh_S HB2 hb
     clear ho hb HO HE
     go_wp2_with fail
     go_roundg d
     case measure => omega
     case rel => exact ⟨6, rfl, ⟨by have := HI.out; omega⟩, ⟨HO5.out⟩, HX, HB2⟩
   ·
     clear hi
     go_wp2_with fail
     refine Calls.mono (octet_Put.calls A4 c4 Li 1 _ _ _ (by exact Kd.C_below (Kd.R_reads' HO.out).2.2 (by repeat (first | (with_reducible first | exact Below.refl _ _ | apply below_alloc | apply pw_below_drewN | apply below_drew1) | exact Below.refl _ _))) (Kd.R_reads' HO.out).2.1 (ip4_Lay.put (m := 1) (by decide) (by have := HE.out; omega))) ?_
     rintro e w5 ⟨v5, rfl, ho, hb⟩
     rw [← HLi.out] at ho
     have HO5 := Aside0.mk (show Kd.R (Kd.int .u8) 5 w5 w2.heap.size (fun _ => True) v5 (ip4_Lay.cat ((ip4_Lay.ns tos id bs ttl proto src dst opts.size data.size).take 7)) by have h := Kd.R_lower ho (show w2.heap.size ≤ _ from (show Below w2.heap.size w2 _ from (sh_B HB2)).size); exact (show ip4_Lay.cat ((ip4_Lay.ns tos id bs ttl proto src dst opts.size data.size).take 7) = ip4_Lay.cat ((ip4_Lay.ns tos id bs ttl proto src dst opts.size data.size).take 6) ++ MBe.be (proto) 1 by rw [show (ip4_Lay.ns tos id bs ttl proto src dst opts.size data.size).take 7 = (ip4_Lay.ns tos id bs ttl proto src dst opts.size data.size).take 6 ++ [(1, proto)] from rfl, ip4_Lay.cat_append]; simp [ip4_Lay.cat]) ▸ h)
     replace HX := Aside0.mk (MStr.block_below (MStr.block_below HX.out (show Below wr.heap.size wr _ from (by repeat (first | (with_reducible first | exact Below.refl _ _ | apply below_alloc | apply pw_below_drewN | apply below_drew1) | exact Below.refl _ _)))) hb)
     replace HB2 := sh_S HB2 hb
     clear ho hb HO HE
     go_wp2_with fail
     go_roundg d
     case measure => omega
     case rel => exact ⟨7, rfl, ⟨by have := HI.out; omega⟩, ⟨HO5.out⟩, HX, HB2⟩
   ·
     clear hi
     go_wp2_with fail
     refine Calls.mono (octet_Put.calls A4 c4 Li 2 _ _ _ (by exact Kd.C_below (Kd.R_reads' HO.out).2.2 (by repeat (first | (with_reducible first | exact Below.refl _ _ | apply below_alloc | apply pw_below_drewN | apply below_drew1) | exact Below.refl _ _))) (Kd.R_reads' HO.out).2.1 (ip4_Lay.put (m := 2) (by decide) (by have := HE.out; omega))) ?_
     rintro e w5 ⟨v5, rfl, ho, hb⟩
     rw [← HLi.out] at ho
     have HO5 := Aside0.mk (show Kd.R (Kd.int .u8) 5 w5 w2.heap.size (fun _ => True) v5 (ip4_Lay.cat ((ip4_Lay.ns tos id bs ttl proto src dst opts.size data.size).take 8)) by have h := Kd.R_lower ho (show w2.heap.size ≤ _ from (show Below w2.heap.size w2 _ from (sh_B HB2)).size); exact (show ip4_Lay.cat ((ip4_Lay.ns tos id bs ttl proto src dst opts.size data.size).take 8) = ip4_Lay.cat ((ip4_Lay.ns tos id bs ttl proto src dst opts.size data.size).take 7) ++ MBe.be (0) 2 by rw [show (ip4_Lay.ns tos id bs ttl proto src dst opts.size data.size).take 8 = (ip4_Lay.ns tos id bs ttl proto src dst opts.size data.size).take 7 ++ [(2, 0)] from rfl, ip4_Lay.cat_append]; simp [ip4_Lay.cat]) ▸ h)
     replace HX := Aside0.mk (MStr.block_below (MStr.block_below HX.out (show Below wr.heap.size wr _ from (by repeat (first | (with_reducible first | exact Below.refl _ _ | apply below_alloc | apply pw_below_drewN | apply below_drew1) | exact Below.refl _ _)))) hb)
     replace HB2 := sh_S HB2 hb
     clear ho hb HO HE
     go_wp2_with fail
     go_roundg d
     case measure => omega
     case rel => exact ⟨8, rfl, ⟨by have := HI.out; omega⟩, ⟨HO5.out⟩, HX, HB2⟩
   ·
     clear hi
     go_wp2_with fail
     refine Calls.mono (octet_Put.calls A4 c4 Li 4 _ _ _ (by exact Kd.C_below (Kd.R_reads' HO.out).2.2 (by repeat (first | (with_reducible first | exact Below.refl _ _ | apply below_alloc | apply pw_below_drewN | apply below_drew1) | exact Below.refl _ _))) (Kd.R_reads' HO.out).2.1 (ip4_Lay.put (m := 4) (by decide) (by have := HE.out; omega))) ?_
     rintro e w5 ⟨v5, rfl, ho, hb⟩
     rw [← HLi.out] at ho
     have HO5 := Aside0.mk (show Kd.R (Kd.int .u8) 5 w5 w2.heap.size (fun _ => True) v5 (ip4_Lay.cat ((ip4_Lay.ns tos id bs ttl proto src dst opts.size data.size).take 9)) by have h := Kd.R_lower ho (show w2.heap.size ≤ _ from (show Below w2.heap.size w2 _ from (sh_B HB2)).size); exact (show ip4_Lay.cat ((ip4_Lay.ns tos id bs ttl proto src dst opts.size data.size).take 9) = ip4_Lay.cat ((ip4_Lay.ns tos id bs ttl proto src dst opts.size data.size).take 8) ++ MBe.be (src) 4 by rw [show (ip4_Lay.ns tos id bs ttl proto src dst opts.size data.size).take 9 = (ip4_Lay.ns tos id bs ttl proto src dst opts.size data.size).take 8 ++ [(4, src)] from rfl, ip4_Lay.cat_append]; simp [ip4_Lay.cat]) ▸ h)
     replace HX := Aside0.mk (MStr.block_below (MStr.block_below HX.out (show Below wr.heap.size wr _ from (by repeat (first | (with_reducible first | exact Below.refl _ _ | apply below_alloc | apply pw_below_drewN | apply below_drew1) | exact Below.refl _ _)))) hb)
     replace HB2 := sh_S HB2 hb
     clear ho hb HO HE
     go_wp2_with fail
     go_roundg d
     case measure => omega
     case rel => exact ⟨9, rfl, ⟨by have := HI.out; omega⟩, ⟨HO5.out⟩, HX, HB2⟩
   ·
     clear hi
     go_wp2_with fail
     refine Calls.mono (octet_Put.calls A4 c4 Li 4 _ _ _ (by exact Kd.C_below (Kd.R_reads' HO.out).2.2 (by repeat (first | (with_reducible first | exact Below.refl _ _ | apply below_alloc | apply pw_below_drewN | apply below_drew1) | exact Below.refl _ _))) (Kd.R_reads' HO.out).2.1 (ip4_Lay.put (m := 4) (by decide) (by have := HE.out; omega))) ?_
     rintro e w5 ⟨v5, rfl, ho, hb⟩
     rw [← HLi.out] at ho
     have HO5 := Aside0.mk (show Kd.R (Kd.int .u8) 5 w5 w2.heap.size (fun _ => True) v5 (ip4_Lay.cat ((ip4_Lay.ns tos id bs ttl proto src dst opts.size data.size).take 10)) by have h := Kd.R_lower ho (show w2.heap.size ≤ _ from (show Below w2.heap.size w2 _ from (sh_B HB2)).size); exact (show ip4_Lay.cat ((ip4_Lay.ns tos id bs ttl proto src dst opts.size data.size).take 10) = ip4_Lay.cat ((ip4_Lay.ns tos id bs ttl proto src dst opts.size data.size).take 9) ++ MBe.be (dst) 4 by rw [show (ip4_Lay.ns tos id bs ttl proto src dst opts.size data.size).take 10 = (ip4_Lay.ns tos id bs ttl proto src dst opts.size data.size).take 9 ++ [(4, dst)] from rfl, ip4_Lay.cat_append]; simp [ip4_Lay.cat]) ▸ h)
     replace HX := Aside0.mk (MStr.block_below (MStr.block_below HX.out (show Below wr.heap.size wr _ from (by repeat (first | (with_reducible first | exact Below.refl _ _ | apply below_alloc | apply pw_below_drewN | apply below_drew1) | exact Below.refl _ _)))) hb)
     replace HB2 := sh_S HB2 hb
     clear ho hb HO HE
     go_wp2_with fail
     go_roundg d
     case measure => omega
     case rel => exact ⟨10, rfl, ⟨by have := HI.out; omega⟩, ⟨HO5.out⟩, HX, HB2⟩
set_option maxHeartbeats 4000000 in
set_option maxRecDepth 100000 in
theorem ip4_Lay.bad (tos id : Int) (df mf : Bool) (off ttl proto : Int) (b1 : Bool) (h1 src : Int) (b2 : Bool) (h2 dst : Int) (opts data : ByteArray) (w : World)
  (hm : ip4_may.f tos id df mf off ttl proto b1 h1 src b2 h2 dst opts data = some false) :
  Calls Tryd.prog 17 #[.agg #[.int .i64 tos, .int .i64 id, .bool df, .bool mf, .int .i64 off, .int .i64 ttl, .int .i64 proto, .bool b1, .int .u64 h1, .int .u64 src, .bool b2, .int .u64 h2, .int .u64 dst, .string opts, .string data]] w fun e w' => e = .returned (.tuple #[.string ⟨#[]⟩, .int .i64 50]) ∧ Below w.heap.size w w' := by
 obtain ⟨wb, hwb⟩ : ∃ wb, w.alloc (.cells #[.int .i64 tos, .int .i64 id, .bool df, .bool mf, .int .i64 off, .int .i64 ttl, .int .i64 proto, .bool b1, .int .u64 h1, .int .u64 src, .bool b2, .int .u64 h2, .int .u64 dst, .string opts, .string data] 37) = wb := ⟨_, rfl⟩
 have HBW := Aside0.mk (show Below w.heap.size w wb by rw [← hwb]; exact below_alloc (Below.refl _ _) _)
 have HX := Aside0.mk (show wb.heap[w.heap.size]? = some (.cells #[.int .i64 tos, .int .i64 id, .bool df, .bool mf, .int .i64 off, .int .i64 ttl, .int .i64 proto, .bool b1, .int .u64 h1, .int .u64 src, .bool b2, .int .u64 h2, .int .u64 dst, .string opts, .string data] 37 (0, 0)) by rw [← hwb]; exact heap_alloc_new _ _)
 have hu26 := Tryd.underlying37
 have hu24 := Tryd.underlying28
 have x0 := MStr.block_cell (j := 0) HX.out rfl; have x1 := MStr.block_cell (j := 1) HX.out rfl; have x2 := MStr.block_cell (j := 2) HX.out rfl; have x3 := MStr.block_cell (j := 3) HX.out rfl; have x4 := MStr.block_cell (j := 4) HX.out rfl; have x5 := MStr.block_cell (j := 5) HX.out rfl; have x6 := MStr.block_cell (j := 6) HX.out rfl; have x7 := MStr.block_cell (j := 7) HX.out rfl; have x8 := MStr.block_cell (j := 8) HX.out rfl; have x9 := MStr.block_cell (j := 9) HX.out rfl; have x10 := MStr.block_cell (j := 10) HX.out rfl; have x11 := MStr.block_cell (j := 11) HX.out rfl; have x12 := MStr.block_cell (j := 12) HX.out rfl; have x13 := MStr.block_cell (j := 13) HX.out rfl; have x14 := MStr.block_cell (j := 14) HX.out rfl
 have HM := Aside0.mk hm
 clear hm
 go_enter Tryd.func17, Tryd.ntmps17
 go_wp2_with fail
 clear hwb
 refine (ip4_may.calls _ _ _ _ _ _ _ _ _ _ _ _ _ _ _ false _ HM.out).mono ?_
 rintro e w2 ⟨rfl, hbl⟩
 replace HX := Aside0.mk (MStr.block_below HX.out hbl)
 have HB := Aside0.mk (below_step HBW.out hbl)
 clear hbl x0 x1 x2 x3 x4 x5 x6 x7 x8 x9 x10 x11 x12 x13 x14
 have x13 := MStr.block_cell (j := 13) HX.out rfl
 have x14 := MStr.block_cell (j := 14) HX.out rfl
 go_wp2_with fail
 go_ret2
 exact ⟨rfl, HB.out⟩
set_option maxHeartbeats 4000000 in
set_option maxRecDepth 100000 in
theorem ip4_Lay.long (tos id : Int) (df mf : Bool) (off ttl proto : Int) (b1 : Bool) (h1 src : Int) (b2 : Bool) (h2 dst : Int) (opts data : ByteArray) (w : World)
  (hm : ip4_may.f tos id df mf off ttl proto b1 h1 src b2 h2 dst opts data = some true) (ho : opts.size ≤ 40) (hd : data.size ≤ 140737488355328) (hs : 65535 < 20 + (opts.size : Int) + (data.size : Int)) :
  Calls Tryd.prog 17 #[.agg #[.int .i64 tos, .int .i64 id, .bool df, .bool mf, .int .i64 off, .int .i64 ttl, .int .i64 proto, .bool b1, .int .u64 h1, .int .u64 src, .bool b2, .int .u64 h2, .int .u64 dst, .string opts, .string data]] w fun e w' => e = .returned (.tuple #[.string ⟨#[]⟩, .int .i64 53]) ∧ Below w.heap.size w w' := by
 obtain ⟨wb, hwb⟩ : ∃ wb, w.alloc (.cells #[.int .i64 tos, .int .i64 id, .bool df, .bool mf, .int .i64 off, .int .i64 ttl, .int .i64 proto, .bool b1, .int .u64 h1, .int .u64 src, .bool b2, .int .u64 h2, .int .u64 dst, .string opts, .string data] 37) = wb := ⟨_, rfl⟩
 have HBW := Aside0.mk (show Below w.heap.size w wb by rw [← hwb]; exact below_alloc (Below.refl _ _) _)
 have HX := Aside0.mk (show wb.heap[w.heap.size]? = some (.cells #[.int .i64 tos, .int .i64 id, .bool df, .bool mf, .int .i64 off, .int .i64 ttl, .int .i64 proto, .bool b1, .int .u64 h1, .int .u64 src, .bool b2, .int .u64 h2, .int .u64 dst, .string opts, .string data] 37 (0, 0)) by rw [← hwb]; exact heap_alloc_new _ _)
 have hu26 := Tryd.underlying37
 have hu24 := Tryd.underlying28
 have x0 := MStr.block_cell (j := 0) HX.out rfl; have x1 := MStr.block_cell (j := 1) HX.out rfl; have x2 := MStr.block_cell (j := 2) HX.out rfl; have x3 := MStr.block_cell (j := 3) HX.out rfl; have x4 := MStr.block_cell (j := 4) HX.out rfl; have x5 := MStr.block_cell (j := 5) HX.out rfl; have x6 := MStr.block_cell (j := 6) HX.out rfl; have x7 := MStr.block_cell (j := 7) HX.out rfl; have x8 := MStr.block_cell (j := 8) HX.out rfl; have x9 := MStr.block_cell (j := 9) HX.out rfl; have x10 := MStr.block_cell (j := 10) HX.out rfl; have x11 := MStr.block_cell (j := 11) HX.out rfl; have x12 := MStr.block_cell (j := 12) HX.out rfl; have x13 := MStr.block_cell (j := 13) HX.out rfl; have x14 := MStr.block_cell (j := 14) HX.out rfl
 have HM := Aside0.mk hm
 clear hm
 go_enter Tryd.func17, Tryd.ntmps17
 go_wp2_with fail
 clear hwb
 refine (ip4_may.calls _ _ _ _ _ _ _ _ _ _ _ _ _ _ _ true _ HM.out).mono ?_
 rintro e w2 ⟨rfl, hbl⟩
 replace HX := Aside0.mk (MStr.block_below HX.out hbl)
 have HB := Aside0.mk (below_step HBW.out hbl)
 clear hbl x0 x1 x2 x3 x4 x5 x6 x7 x8 x9 x10 x11 x12 x13 x14
 have x13 := MStr.block_cell (j := 13) HX.out rfl
 have x14 := MStr.block_cell (j := 14) HX.out rfl
 go_wp2_with fail
 go_ret2
 exact ⟨rfl, HB.out⟩
theorem ip4_Lay.mono : ∀ a0 a1 a2 a3 a4 a5 a6 a7 a8 a9 a10 a11 a12 a13 a14 k, LeO (ip4_Lay.f k a0 a1 a2 a3 a4 a5 a6 a7 a8 a9 a10 a11 a12 a13 a14) (ip4_Lay.f (k + 1) a0 a1 a2 a3 a4 a5 a6 a7 a8 a9 a10 a11 a12 a13 a14) := by
 intro a0 a1 a2 a3 a4 a5 a6 a7 a8 a9 a10 a11 a12 a13 a14 k
 unfold ip4_Lay.f
 repeat' first | (with_reducible exact tally_Check.mono _ _) | (with_reducible exact LeO.refl _) | (with_reducible exact LeO.none _) | (with_reducible refine LeO.ite ?_ ?_) | (with_reducible refine LeO.bind ?_ (fun _ => ?_))
theorem ip4_Lay.calls (k : Nat) (a0 a1 : Int) (a2 a3 : Bool) (a4 a5 a6 : Int) (a7 : Bool) (a8 a9 : Int) (a10 : Bool) (a11 a12 : Int) (a13 a14 : ByteArray) (r1 : ByteArray) (r2 : Int) (w : World) (h : ip4_Lay.f k a0 a1 a2 a3 a4 a5 a6 a7 a8 a9 a10 a11 a12 a13 a14 = some (r1, r2)) :
  Calls Tryd.prog 17 #[.agg #[.int .i64 a0, .int .i64 a1, .bool a2, .bool a3, .int .i64 a4, .int .i64 a5, .int .i64 a6, .bool a7, .int .u64 a8, .int .u64 a9, .bool a10, .int .u64 a11, .int .u64 a12, .string a13, .string a14]] w fun e w' => e = .returned (.tuple #[.string r1, .int .i64 r2]) ∧ Below w.heap.size w w' := by
 unfold ip4_Lay.f at h
 obtain ⟨m, hm, h⟩ := Option.bind_eq_some_iff.1 h
 cases m with
 | false =>
  rw [if_pos rfl] at h; injection h with h; injection h with e1 e2; subst e1 e2
  exact ip4_Lay.bad a0 a1 a2 a3 a4 a5 a6 a7 a8 a9 a10 a11 a12 a13 a14 w hm
 | true =>
  rw [if_neg (by decide)] at h
  by_cases hz : a13.size ≤ 40 ∧ a14.size ≤ 140737488355328
  case neg => rw [if_pos hz] at h; cases h
  rw [if_neg (fun q => q hz)] at h
  by_cases hl : 65535 < 20 + (a13.size : Int) + (a14.size : Int)
  · rw [if_pos hl] at h; injection h with h; injection h with e1 e2; subst e1 e2
    exact ip4_Lay.long a0 a1 a2 a3 a4 a5 a6 a7 a8 a9 a10 a11 a12 a13 a14 w hm hz.1 hz.2 hl
  rw [if_neg hl] at h
  by_cases hq : 0 ≤ a9 ∧ a9 ≤ 4294967295 ∧ 0 ≤ a12 ∧ a12 ≤ 4294967295 ∧ 0 ≤ a0 ∧ a0 ≤ 255 ∧ 0 ≤ a1 ∧ a1 ≤ 65535 ∧ 0 ≤ a5 ∧ a5 ≤ 255 ∧ 0 ≤ a6 ∧ a6 ≤ 255 ∧ 0 ≤ ip4_Lay.bits a2 a3 a4 ∧ ip4_Lay.bits a2 a3 a4 ≤ 65535
  case neg => rw [if_pos hq] at h; cases h
  rw [if_neg (fun q => q hq)] at h
  obtain ⟨c, hc, h⟩ := Option.bind_eq_some_iff.1 h
  by_cases hr : 0 ≤ c ∧ c ≤ 65535
  case neg => rw [if_pos hr] at h; cases h
  rw [if_neg (fun q => q hr)] at h; injection h with h; injection h with e1 e2; subst e1 e2
  obtain ⟨t1, t2, t3, t4, t5, t6, t7, t8, t9, t10, t11, t12, t13, t14⟩ := hq
  exact ip4_Lay.good k a0 a1 a2 a3 a4 a5 a6 a7 a8 a9 a10 a11 a12 a13 a14 c _ w hm (by omega) ⟨t1, t2⟩ ⟨t3, t4⟩ t5 t6 t7 t8 t9 t10 t11 t12 rfl t13 t14 hc hr.1 hr.2

end Go.Proofs.YtaoopneiglgnkaaDoor.PBase
