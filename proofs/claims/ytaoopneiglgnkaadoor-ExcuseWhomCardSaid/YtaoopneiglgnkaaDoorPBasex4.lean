/- Functions of the program as Lean functions, each with a proof that a call comes to what it says. Conditions: those of each theorem. Laid by a program of this session. -/
import Derived.Test.YtaoopneiglgnkaaDoorPBasex0
import Derived.Test.YtaoopneiglgnkaaDoorPBasex2
import Derived.Test.YtaoopneiglgnkaaDoorPBasex3
namespace Go.Proofs.YtaoopneiglgnkaaDoor.PBase
open Go.RowKit Go.Proofs.YtaoopneiglgnkaaDoor Go.Proofs.YtaoopneiglgnkaaDoorW.PrintWords Go.Proofs.YtaoopneiglgnkaaDoorW.PrintLast Go.Proofs.YtaoopneiglgnkaaDoorW.PrintMore
attribute [local go_sem] max2_int min2_int max_two min_two max_three min_three max_four min_four   -- for this text's walks alone
set_option linter.unusedVariables false
set_option linter.unusedSimpArgs false

/-! ### icmp_base_may: function 99 -/
def icmp_base_may.f (a0_0 : Bool) (a0_1 : Int) (a0_2 : Int) (a0_3 : Int) (a0_4 : ByteArray) (a0_5 : Bool) (a0_6 : Int) (a0_7 : Int) (a0_8 : Bool) (a0_9 : Int) (a0_10 : Int) : Option (Bool) := if a0_1 ≥ 0 then (if a0_1 < 256 then (if a0_2 ≥ 0 then (if a0_2 < 256 then (if a0_3 ≥ 0 then (if a0_3 < 4294967296 then (some (decide ((a0_4.size : Int) ≤ 65000))) else (some false)) else (some false)) else (some false)) else (some false)) else (some false)) else (some false)
set_option maxHeartbeats 8000000 in
set_option maxRecDepth 100000 in
theorem icmp_base_may.calls (a0_0 : Bool) (a0_1 : Int) (a0_2 : Int) (a0_3 : Int) (a0_4 : ByteArray) (a0_5 : Bool) (a0_6 : Int) (a0_7 : Int) (a0_8 : Bool) (a0_9 : Int) (a0_10 : Int) (r : Bool) (w : World) (h : icmp_base_may.f a0_0 a0_1 a0_2 a0_3 a0_4 a0_5 a0_6 a0_7 a0_8 a0_9 a0_10 = some r) :
  Calls Tryd.prog 99 #[.agg #[.bool a0_0, .int .i64 a0_1, .int .i64 a0_2, .int .i64 a0_3, .string a0_4, .bool a0_5, .int .u64 a0_6, .int .u64 a0_7, .bool a0_8, .int .u64 a0_9, .int .u64 a0_10]] w fun e w' => e = .returned (.bool r) ∧ Below w.heap.size w w' := by
 have hu107 := Tryd.underlying107
 have hu43 := Tryd.underlying43
 have HB := Aside0.mk (Below.refl w.heap.size w)
 have H : (if a0_1 ≥ 0 then (if a0_1 < 256 then (if a0_2 ≥ 0 then (if a0_2 < 256 then (if a0_3 ≥ 0 then (if a0_3 < 4294967296 then (some (decide ((a0_4.size : Int) ≤ 65000))) else (some false)) else (some false)) else (some false)) else (some false)) else (some false)) else (some false)) = some r := h
 clear h
 by_cases c2 : a0_1 ≥ 0
 ·
  rw [if_pos c2] at H
  have c2b0 : decide (0 ≤ a0_1) = true := decide_eq_true c2
  clear c2
  by_cases c3 : a0_1 < 256
  ·
   rw [if_pos c3] at H
   have c3b0 : decide (a0_1 < 256) = true := decide_eq_true c3
   clear c3
   by_cases c4 : a0_2 ≥ 0
   ·
    rw [if_pos c4] at H
    have c4b0 : decide (0 ≤ a0_2) = true := decide_eq_true c4
    clear c4
    by_cases c5 : a0_2 < 256
    ·
     rw [if_pos c5] at H
     have c5b0 : decide (a0_2 < 256) = true := decide_eq_true c5
     clear c5
     by_cases c6 : a0_3 ≥ 0
     ·
      rw [if_pos c6] at H
      have c6b0 : decide (0 ≤ a0_3) = true := decide_eq_true c6
      clear c6
      by_cases c7 : a0_3 < 4294967296
      ·
       rw [if_pos c7] at H
       have c7b0 : decide (a0_3 < 4294967296) = true := decide_eq_true c7
       clear c7
       obtain rfl := Option.some.inj H
       go_enter Tryd.func99, Tryd.ntmps99
       go_wp2_with (first | ((with_reducible refine gate_dst (N := 1) rfl ?_); (try (refine gate_guard (by rfl) ?_; dsimp only)); refine sh_E 1 107 #[.bool a0_0, .int .i64 a0_1, .int .i64 a0_2, .int .i64 a0_3, .string a0_4, .bool a0_5, .int .u64 a0_6, .int .u64 a0_7, .bool a0_8, .int .u64 a0_9, .int .u64 a0_10] ?_; intro gb149 hg w8 hbox hb; have BK149 := Aside0.mk hbox; have GW149 := sh_G HB hg; have GE149 := GW149; replace HB := sh_S HB hb; clear hb hbox hg; obtain ⟨hcz9_0, hcz9_1, hcz9_2, hcz9_3, hcz9_4, hcz9_5, hcz9_6, hcz9_7, hcz9_8, hcz9_9, hcz9_10⟩ := MBlk.c11 BK149.out; obtain ⟨hfz9_0, hfz9_1, hfz9_2, hfz9_3, hfz9_4, hfz9_5, hfz9_6, hfz9_7, hfz9_8, hfz9_9, hfz9_10⟩ := MBlk.f11 BK149.out) | ((with_reducible refine gate_dst (N := 3) rfl ?_); (try (refine gate_guard (by rfl) ?_; dsimp only)); refine sh_E 3 43 #[.bool false, .int .i64 0, .int .i64 0, .int .i64 0, .string (⟨#[]⟩ : ByteArray)] ?_; intro gb150 hg w10 hbox hb; have BK150 := Aside0.mk hbox; have GW150 := sh_G HB hg; have GE150 := GW150; replace HB := sh_S HB hb; have NB149_150 := sh_N BK149 hg; have NB150_149 := sh_M BK149 hg; replace BK149 := sh_L BK149 hb; clear hb hbox hg; have hnb11 := NB150_149.out; have hnc11 := NB149_150.out; obtain ⟨hcz12_0, hcz12_1, hcz12_2, hcz12_3, hcz12_4⟩ := MBlk.c5 BK150.out; obtain ⟨hfz12_0, hfz12_1, hfz12_2, hfz12_3, hfz12_4⟩ := MBlk.f5 BK150.out))
       go_ret
       exact ⟨by first | rfl | (simp [errW_none, errW_some] <;> rfl) | (simp [*, errW_none, errW_some] <;> rfl), by repeat (first | (with_reducible first | exact HB.out | apply below_alloc | apply pw_below_drewN | apply below_drew1 | refine below_set ?_ GE149.out | refine below_set ?_ GE150.out) | exact HB.out)⟩
      ·
       rw [if_neg c7] at H
       have c7b0 : decide (a0_3 < 4294967296) = false := decide_eq_false c7
       clear c7
       obtain rfl := Option.some.inj H
       go_enter Tryd.func99, Tryd.ntmps99
       go_wp2_with (first | ((with_reducible refine gate_dst (N := 1) rfl ?_); (try (refine gate_guard (by rfl) ?_; dsimp only)); refine sh_E 1 107 #[.bool a0_0, .int .i64 a0_1, .int .i64 a0_2, .int .i64 a0_3, .string a0_4, .bool a0_5, .int .u64 a0_6, .int .u64 a0_7, .bool a0_8, .int .u64 a0_9, .int .u64 a0_10] ?_; intro gb149 hg w13 hbox hb; have BK149 := Aside0.mk hbox; have GW149 := sh_G HB hg; have GE149 := GW149; replace HB := sh_S HB hb; clear hb hbox hg; obtain ⟨hcz14_0, hcz14_1, hcz14_2, hcz14_3, hcz14_4, hcz14_5, hcz14_6, hcz14_7, hcz14_8, hcz14_9, hcz14_10⟩ := MBlk.c11 BK149.out; obtain ⟨hfz14_0, hfz14_1, hfz14_2, hfz14_3, hfz14_4, hfz14_5, hfz14_6, hfz14_7, hfz14_8, hfz14_9, hfz14_10⟩ := MBlk.f11 BK149.out) | ((with_reducible refine gate_dst (N := 3) rfl ?_); (try (refine gate_guard (by rfl) ?_; dsimp only)); refine sh_E 3 43 #[.bool false, .int .i64 0, .int .i64 0, .int .i64 0, .string (⟨#[]⟩ : ByteArray)] ?_; intro gb150 hg w15 hbox hb; have BK150 := Aside0.mk hbox; have GW150 := sh_G HB hg; have GE150 := GW150; replace HB := sh_S HB hb; have NB149_150 := sh_N BK149 hg; have NB150_149 := sh_M BK149 hg; replace BK149 := sh_L BK149 hb; clear hb hbox hg; have hnb16 := NB150_149.out; have hnc16 := NB149_150.out; obtain ⟨hcz17_0, hcz17_1, hcz17_2, hcz17_3, hcz17_4⟩ := MBlk.c5 BK150.out; obtain ⟨hfz17_0, hfz17_1, hfz17_2, hfz17_3, hfz17_4⟩ := MBlk.f5 BK150.out))
       go_ret
       exact ⟨by first | rfl | (simp [errW_none, errW_some] <;> rfl) | (simp [*, errW_none, errW_some] <;> rfl), by repeat (first | (with_reducible first | exact HB.out | apply below_alloc | apply pw_below_drewN | apply below_drew1 | refine below_set ?_ GE149.out | refine below_set ?_ GE150.out) | exact HB.out)⟩
     ·
      rw [if_neg c6] at H
      have c6b0 : decide (0 ≤ a0_3) = false := decide_eq_false c6
      clear c6
      obtain rfl := Option.some.inj H
      go_enter Tryd.func99, Tryd.ntmps99
      go_wp2_with (first | ((with_reducible refine gate_dst (N := 1) rfl ?_); (try (refine gate_guard (by rfl) ?_; dsimp only)); refine sh_E 1 107 #[.bool a0_0, .int .i64 a0_1, .int .i64 a0_2, .int .i64 a0_3, .string a0_4, .bool a0_5, .int .u64 a0_6, .int .u64 a0_7, .bool a0_8, .int .u64 a0_9, .int .u64 a0_10] ?_; intro gb149 hg w18 hbox hb; have BK149 := Aside0.mk hbox; have GW149 := sh_G HB hg; have GE149 := GW149; replace HB := sh_S HB hb; clear hb hbox hg; obtain ⟨hcz19_0, hcz19_1, hcz19_2, hcz19_3, hcz19_4, hcz19_5, hcz19_6, hcz19_7, hcz19_8, hcz19_9, hcz19_10⟩ := MBlk.c11 BK149.out; obtain ⟨hfz19_0, hfz19_1, hfz19_2, hfz19_3, hfz19_4, hfz19_5, hfz19_6, hfz19_7, hfz19_8, hfz19_9, hfz19_10⟩ := MBlk.f11 BK149.out) | ((with_reducible refine gate_dst (N := 3) rfl ?_); (try (refine gate_guard (by rfl) ?_; dsimp only)); refine sh_E 3 43 #[.bool false, .int .i64 0, .int .i64 0, .int .i64 0, .string (⟨#[]⟩ : ByteArray)] ?_; intro gb150 hg w20 hbox hb; have BK150 := Aside0.mk hbox; have GW150 := sh_G HB hg; have GE150 := GW150; replace HB := sh_S HB hb; have NB149_150 := sh_N BK149 hg; have NB150_149 := sh_M BK149 hg; replace BK149 := sh_L BK149 hb; clear hb hbox hg; have hnb21 := NB150_149.out; have hnc21 := NB149_150.out; obtain ⟨hcz22_0, hcz22_1, hcz22_2, hcz22_3, hcz22_4⟩ := MBlk.c5 BK150.out; obtain ⟨hfz22_0, hfz22_1, hfz22_2, hfz22_3, hfz22_4⟩ := MBlk.f5 BK150.out))
      go_ret
      exact ⟨by first | rfl | (simp [errW_none, errW_some] <;> rfl) | (simp [*, errW_none, errW_some] <;> rfl), by repeat (first | (with_reducible first | exact HB.out | apply below_alloc | apply pw_below_drewN | apply below_drew1 | refine below_set ?_ GE149.out | refine below_set ?_ GE150.out) | exact HB.out)⟩
    ·
     rw [if_neg c5] at H
     have c5b0 : decide (a0_2 < 256) = false := decide_eq_false c5
     clear c5
     obtain rfl := Option.some.inj H
     go_enter Tryd.func99, Tryd.ntmps99
     go_wp2_with (first | ((with_reducible refine gate_dst (N := 1) rfl ?_); (try (refine gate_guard (by rfl) ?_; dsimp only)); refine sh_E 1 107 #[.bool a0_0, .int .i64 a0_1, .int .i64 a0_2, .int .i64 a0_3, .string a0_4, .bool a0_5, .int .u64 a0_6, .int .u64 a0_7, .bool a0_8, .int .u64 a0_9, .int .u64 a0_10] ?_; intro gb149 hg w23 hbox hb; have BK149 := Aside0.mk hbox; have GW149 := sh_G HB hg; have GE149 := GW149; replace HB := sh_S HB hb; clear hb hbox hg; obtain ⟨hcz24_0, hcz24_1, hcz24_2, hcz24_3, hcz24_4, hcz24_5, hcz24_6, hcz24_7, hcz24_8, hcz24_9, hcz24_10⟩ := MBlk.c11 BK149.out; obtain ⟨hfz24_0, hfz24_1, hfz24_2, hfz24_3, hfz24_4, hfz24_5, hfz24_6, hfz24_7, hfz24_8, hfz24_9, hfz24_10⟩ := MBlk.f11 BK149.out) | ((with_reducible refine gate_dst (N := 3) rfl ?_); (try (refine gate_guard (by rfl) ?_; dsimp only)); refine sh_E 3 43 #[.bool false, .int .i64 0, .int .i64 0, .int .i64 0, .string (⟨#[]⟩ : ByteArray)] ?_; intro gb150 hg w25 hbox hb; have BK150 := Aside0.mk hbox; have GW150 := sh_G HB hg; have GE150 := GW150; replace HB := sh_S HB hb; have NB149_150 := sh_N BK149 hg; have NB150_149 := sh_M BK149 hg; replace BK149 := sh_L BK149 hb; clear hb hbox hg; have hnb26 := NB150_149.out; have hnc26 := NB149_150.out; obtain ⟨hcz27_0, hcz27_1, hcz27_2, hcz27_3, hcz27_4⟩ := MBlk.c5 BK150.out; obtain ⟨hfz27_0, hfz27_1, hfz27_2, hfz27_3, hfz27_4⟩ := MBlk.f5 BK150.out))
     go_ret
     exact ⟨by first | rfl | (simp [errW_none, errW_some] <;> rfl) | (simp [*, errW_none, errW_some] <;> rfl), by repeat (first | (with_reducible first | exact HB.out | apply below_alloc | apply pw_below_drewN | apply below_drew1 | refine below_set ?_ GE149.out | refine below_set ?_ GE150.out) | exact HB.out)⟩
   ·
    rw [if_neg c4] at H
    have c4b0 : decide (0 ≤ a0_2) = false := decide_eq_false c4
    clear c4
    obtain rfl := Option.some.inj H
    go_enter Tryd.func99, Tryd.ntmps99
    go_wp2_with (first | ((with_reducible refine gate_dst (N := 1) rfl ?_); (try (refine gate_guard (by rfl) ?_; dsimp only)); refine sh_E 1 107 #[.bool a0_0, .int .i64 a0_1, .int .i64 a0_2, .int .i64 a0_3, .string a0_4, .bool a0_5, .int .u64 a0_6, .int .u64 a0_7, .bool a0_8, .int .u64 a0_9, .int .u64 a0_10] ?_; intro gb149 hg w28 hbox hb; have BK149 := Aside0.mk hbox; have GW149 := sh_G HB hg; have GE149 := GW149; replace HB := sh_S HB hb; clear hb hbox hg; obtain ⟨hcz29_0, hcz29_1, hcz29_2, hcz29_3, hcz29_4, hcz29_5, hcz29_6, hcz29_7, hcz29_8, hcz29_9, hcz29_10⟩ := MBlk.c11 BK149.out; obtain ⟨hfz29_0, hfz29_1, hfz29_2, hfz29_3, hfz29_4, hfz29_5, hfz29_6, hfz29_7, hfz29_8, hfz29_9, hfz29_10⟩ := MBlk.f11 BK149.out) | ((with_reducible refine gate_dst (N := 3) rfl ?_); (try (refine gate_guard (by rfl) ?_; dsimp only)); refine sh_E 3 43 #[.bool false, .int .i64 0, .int .i64 0, .int .i64 0, .string (⟨#[]⟩ : ByteArray)] ?_; intro gb150 hg w30 hbox hb; have BK150 := Aside0.mk hbox; have GW150 := sh_G HB hg; have GE150 := GW150; replace HB := sh_S HB hb; have NB149_150 := sh_N BK149 hg; have NB150_149 := sh_M BK149 hg; replace BK149 := sh_L BK149 hb; clear hb hbox hg; have hnb31 := NB150_149.out; have hnc31 := NB149_150.out; obtain ⟨hcz32_0, hcz32_1, hcz32_2, hcz32_3, hcz32_4⟩ := MBlk.c5 BK150.out; obtain ⟨hfz32_0, hfz32_1, hfz32_2, hfz32_3, hfz32_4⟩ := MBlk.f5 BK150.out))
    go_ret
    exact ⟨by first | rfl | (simp [errW_none, errW_some] <;> rfl) | (simp [*, errW_none, errW_some] <;> rfl), by repeat (first | (with_reducible first | exact HB.out | apply below_alloc | apply pw_below_drewN | apply below_drew1 | refine below_set ?_ GE149.out | refine below_set ?_ GE150.out) | exact HB.out)⟩
  ·
   rw [if_neg c3] at H
   have c3b0 : decide (a0_1 < 256) = false := decide_eq_false c3
   clear c3
   obtain rfl := Option.some.inj H
   go_enter Tryd.func99, Tryd.ntmps99
   go_wp2_with (first | ((with_reducible refine gate_dst (N := 1) rfl ?_); (try (refine gate_guard (by rfl) ?_; dsimp only)); refine sh_E 1 107 #[.bool a0_0, .int .i64 a0_1, .int .i64 a0_2, .int .i64 a0_3, .string a0_4, .bool a0_5, .int .u64 a0_6, .int .u64 a0_7, .bool a0_8, .int .u64 a0_9, .int .u64 a0_10] ?_; intro gb149 hg w33 hbox hb; have BK149 := Aside0.mk hbox; have GW149 := sh_G HB hg; have GE149 := GW149; replace HB := sh_S HB hb; clear hb hbox hg; obtain ⟨hcz34_0, hcz34_1, hcz34_2, hcz34_3, hcz34_4, hcz34_5, hcz34_6, hcz34_7, hcz34_8, hcz34_9, hcz34_10⟩ := MBlk.c11 BK149.out; obtain ⟨hfz34_0, hfz34_1, hfz34_2, hfz34_3, hfz34_4, hfz34_5, hfz34_6, hfz34_7, hfz34_8, hfz34_9, hfz34_10⟩ := MBlk.f11 BK149.out) | ((with_reducible refine gate_dst (N := 3) rfl ?_); (try (refine gate_guard (by rfl) ?_; dsimp only)); refine sh_E 3 43 #[.bool false, .int .i64 0, .int .i64 0, .int .i64 0, .string (⟨#[]⟩ : ByteArray)] ?_; intro gb150 hg w35 hbox hb; have BK150 := Aside0.mk hbox; have GW150 := sh_G HB hg; have GE150 := GW150; replace HB := sh_S HB hb; have NB149_150 := sh_N BK149 hg; have NB150_149 := sh_M BK149 hg; replace BK149 := sh_L BK149 hb; clear hb hbox hg; have hnb36 := NB150_149.out; have hnc36 := NB149_150.out; obtain ⟨hcz37_0, hcz37_1, hcz37_2, hcz37_3, hcz37_4⟩ := MBlk.c5 BK150.out; obtain ⟨hfz37_0, hfz37_1, hfz37_2, hfz37_3, hfz37_4⟩ := MBlk.f5 BK150.out))
   go_ret
   exact ⟨by first | rfl | (simp [errW_none, errW_some] <;> rfl) | (simp [*, errW_none, errW_some] <;> rfl), by repeat (first | (with_reducible first | exact HB.out | apply below_alloc | apply pw_below_drewN | apply below_drew1 | refine below_set ?_ GE149.out | refine below_set ?_ GE150.out) | exact HB.out)⟩
 ·
  rw [if_neg c2] at H
  have c2b0 : decide (0 ≤ a0_1) = false := decide_eq_false c2
  clear c2
  obtain rfl := Option.some.inj H
  go_enter Tryd.func99, Tryd.ntmps99
  go_wp2_with (first | ((with_reducible refine gate_dst (N := 1) rfl ?_); (try (refine gate_guard (by rfl) ?_; dsimp only)); refine sh_E 1 107 #[.bool a0_0, .int .i64 a0_1, .int .i64 a0_2, .int .i64 a0_3, .string a0_4, .bool a0_5, .int .u64 a0_6, .int .u64 a0_7, .bool a0_8, .int .u64 a0_9, .int .u64 a0_10] ?_; intro gb149 hg w38 hbox hb; have BK149 := Aside0.mk hbox; have GW149 := sh_G HB hg; have GE149 := GW149; replace HB := sh_S HB hb; clear hb hbox hg; obtain ⟨hcz39_0, hcz39_1, hcz39_2, hcz39_3, hcz39_4, hcz39_5, hcz39_6, hcz39_7, hcz39_8, hcz39_9, hcz39_10⟩ := MBlk.c11 BK149.out; obtain ⟨hfz39_0, hfz39_1, hfz39_2, hfz39_3, hfz39_4, hfz39_5, hfz39_6, hfz39_7, hfz39_8, hfz39_9, hfz39_10⟩ := MBlk.f11 BK149.out) | ((with_reducible refine gate_dst (N := 3) rfl ?_); (try (refine gate_guard (by rfl) ?_; dsimp only)); refine sh_E 3 43 #[.bool false, .int .i64 0, .int .i64 0, .int .i64 0, .string (⟨#[]⟩ : ByteArray)] ?_; intro gb150 hg w40 hbox hb; have BK150 := Aside0.mk hbox; have GW150 := sh_G HB hg; have GE150 := GW150; replace HB := sh_S HB hb; have NB149_150 := sh_N BK149 hg; have NB150_149 := sh_M BK149 hg; replace BK149 := sh_L BK149 hb; clear hb hbox hg; have hnb41 := NB150_149.out; have hnc41 := NB149_150.out; obtain ⟨hcz42_0, hcz42_1, hcz42_2, hcz42_3, hcz42_4⟩ := MBlk.c5 BK150.out; obtain ⟨hfz42_0, hfz42_1, hfz42_2, hfz42_3, hfz42_4⟩ := MBlk.f5 BK150.out))
  go_ret
  exact ⟨by first | rfl | (simp [errW_none, errW_some] <;> rfl) | (simp [*, errW_none, errW_some] <;> rfl), by repeat (first | (with_reducible first | exact HB.out | apply below_alloc | apply pw_below_drewN | apply below_drew1 | refine below_set ?_ GE149.out | refine below_set ?_ GE150.out) | exact HB.out)⟩

/-! ### icmp_base_bytes: function 98 (by hand) -/
/-- A message's bytes, with a check. -/
def icmp_base_bytes.of (kind code rest : Int) (data : ByteArray) (check : Int) : List Int := (([kind % 256, code % 256] ++ MBe.be check 2) ++ MBe.be (IntKind.u64.wrap rest) 4) ++ bytesOf data
set_option maxHeartbeats 1000000 in
set_option maxRecDepth 100000 in
theorem icmp_base_bytes.calls (s : Bool) (kind code rest : Int) (data : ByteArray) (b1 : Bool) (h1 l1 : Int) (b2 : Bool) (h2 l2 : Int) (check : Int) (hs : data.size ≤ 140737488355200) (hc : 0 ≤ check ∧ check ≤ 65535) (w : World) :
  Calls Tryd.prog 98 #[.agg #[.bool s, .int .i64 kind, .int .i64 code, .int .i64 rest, .string data, .bool b1, .int .u64 h1, .int .u64 l1, .bool b2, .int .u64 h2, .int .u64 l2], .int .u16 check] w fun e w' => ∃ v, e = .returned v ∧ Kd.R (Kd.int .u8) 5 w' w.heap.size (fun _ => True) v (icmp_base_bytes.of kind code rest data check) ∧ Below w.heap.size w w' := by
 have hu58 := Tryd.underlying107
 have hu23 := Tryd.underlying43
 have hu26 := Tryd.underlying28
 have HS := Aside0.mk hs
 unfold icmp_base_bytes.of
 obtain ⟨rs, hrs⟩ : ∃ rs, IntKind.u64.wrap rest = rs := ⟨_, rfl⟩
 rw [hrs]
 have HB := Aside0.mk (Below.refl w.heap.size w)
 go_enter Tryd.func98, Tryd.ntmps98
 go_wp2_with fail
 refine (octet_Put.calls (some ⟨w.heap.size + 1, 0, none⟩) 2 [kind % 256, code % 256] 2 check ([kind % 256, code % 256] ++ MBe.be check 2) _ ?hc (by simp) ?hf).mono ?_
 case hf => unfold octet_Put.f; rw [if_pos (by simp), show octet_Put.wid 2 = 2 by decide]
 case hc => refine MStr.C_block0 (T := 5) (MStr.alloc2_new _ _ _) (by simp)
 rintro e w2 ⟨v2, rfl, ho, hb⟩
 have x3 : w2.cell? ⟨w.heap.size, 3, none⟩ = some (.int .i64 rest) := pw_cell_below hb (pw_cell_below (below_alloc (Below.refl _ _) _) (MStr.alloc_cell _ _ _ _ _ rfl))
 have X4 : Aside0 (w2.cell? ⟨w.heap.size, 4, none⟩ = some (.string data)) := ⟨pw_cell_below hb (pw_cell_below (below_alloc (Below.refl _ _) _) (MStr.alloc_cell _ _ _ _ _ rfl))⟩
 replace HB := sh_S HB hb
 obtain ⟨L2, hL2⟩ : ∃ L2, [kind % 256, code % 256] ++ MBe.be check 2 = L2 := ⟨_, rfl⟩
 have HN2 := Aside0.mk (show L2.length = 4 by rw [← hL2]; simp [MBe.be_length])
 rw [hL2] at ho
 have HE := Aside0.mk hL2
 clear hL2
 obtain ⟨A2, c2, rfl⟩ := Kd.R_slice ho
 have HO := Aside0.mk (Kd.R_reads' ho)
 clear ho hb
 go_wp2_with fail
 refine (octet_Put.calls A2 c2 L2 4 (rs) (L2 ++ MBe.be (rs) 4) _ HO.out.2.2 HO.out.2.1 ?hf2).mono ?_
 case hf2 => unfold octet_Put.f; rw [if_pos (by have := HN2.out; omega), show octet_Put.wid 4 = 4 by decide]
 rintro e w3 ⟨v3, rfl, ho, hb⟩
 have x4 : w3.cell? ⟨w.heap.size, 4, none⟩ = some (.string data) := pw_cell_below hb X4.out
 have HS3 := Aside0.mk (show w.heap.size ≤ w2.heap.size from HB.out.size)
 replace HB := sh_S HB hb
 obtain ⟨L3, hL3⟩ : ∃ L3, L2 ++ MBe.be (rs) 4 = L3 := ⟨_, rfl⟩
 have HN3 := Aside0.mk (show L3.length = 8 by rw [← hL3]; simp [MBe.be_length, HN2.out])
 rw [hL3] at ho
 have HE3 := Aside0.mk hL3
 have HO3 := Aside0.mk (Kd.R_lower ho HS3.out)
 clear hL3 ho hb X4 x3
 go_wp2_with ((with_reducible refine gate_builtin (b := .append) (xs := #[.tmp 25, .tmp 28]) rfl ?_); at_builtin; refine MStr.R_append_str (w0 := w) w.heap.size rfl (.tmp 25) (.tmp 28) 70 9 5 rfl Tryd.underlying70 Tryd.underlying9 info5 v3 L3 data rfl rfl HO3.out HB.out HB.out.size (by have := HS.out; have := HN3.out; omega) ?_; intro v4 w4 ho hb hg; have HO4 := Aside0.mk ho; clear HO3 HB ho hg; have HB := Aside0.mk hb; clear hb)
 go_ret
 refine ⟨v4, rfl, ?_, HB.out⟩
 have e := HO4.out
 rw [← HE3.out, ← HE.out] at e
 simpa only [List.cons_append, List.nil_append, List.append_assoc] using e

/-! ### icmp_six_ends: function 101 (by hand) -/
set_option maxHeartbeats 1000000 in
set_option maxRecDepth 100000 in
theorem icmp_six_ends.calls (s : Bool) (kind code rest : Int) (data : ByteArray) (b1 : Bool) (h1 l1 : Int) (b2 : Bool) (h2 l2 : Int) (w : World) :
  Calls Tryd.prog 101 #[.agg #[.bool s, .int .i64 kind, .int .i64 code, .int .i64 rest, .string data, .bool b1, .int .u64 h1, .int .u64 l1, .bool b2, .int .u64 h2, .int .u64 l2]] w fun e w' => e = .returned (.bool (b1 && b2)) ∧ Below w.heap.size w w' := by
 have hu60 := Tryd.underlying109
 have hu58 := Tryd.underlying107
 have hu23 := Tryd.underlying43
 have hu26 := Tryd.underlying28
 go_enter Tryd.func101, Tryd.ntmps101
 cases b1 <;> cases b2
 all_goals
  go_wp2
  go_ret
  exact ⟨rfl, by go_grown⟩
set_option maxHeartbeats 1000000 in
set_option maxRecDepth 100000 in
theorem icmp_four_ends.calls (cs : Array Value) (w : World) :
  Calls Tryd.prog 105 #[.agg cs] w fun e w' => e = .returned (.bool true) ∧ Below w.heap.size w w' := by
 go_enter Tryd.func105, Tryd.ntmps105
 go_wp2
 go_ret
 exact ⟨rfl, by go_grown⟩
set_option maxHeartbeats 1000000 in
set_option maxRecDepth 100000 in
theorem icmp_four_beside.calls (cs : Array Value) (n : Int) (w : World) :
  Calls Tryd.prog 104 #[.agg cs, .int .i64 n] w fun e w' => e = .returned (.int .u16 0) ∧ Below w.heap.size w w' := by
 go_enter Tryd.func104, Tryd.ntmps104
 go_wp2
 go_ret
 exact ⟨rfl, by go_grown⟩
set_option maxHeartbeats 1000000 in
set_option maxRecDepth 100000 in
theorem icmp_six_beside.calls (k : Nat) (s : Bool) (kind code rest : Int) (data : ByteArray) (b1 : Bool) (h1 l1 : Int) (b2 : Bool) (h2 l2 : Int) (n r : Int) (w : World) (h : tally_Pseudo.f k b1 h1 l1 b2 h2 l2 n 58 = some r) :
  Calls Tryd.prog 100 #[.agg #[.bool s, .int .i64 kind, .int .i64 code, .int .i64 rest, .string data, .bool b1, .int .u64 h1, .int .u64 l1, .bool b2, .int .u64 h2, .int .u64 l2], .int .i64 n] w fun e w' => e = .returned (.int .u16 r) ∧ Below w.heap.size w w' := by
 have hu60 := Tryd.underlying109
 have hu58 := Tryd.underlying107
 have hu23 := Tryd.underlying43
 have hu26 := Tryd.underlying28
 have H := Aside0.mk h
 clear h
 go_enter Tryd.func100, Tryd.ntmps100
 go_wp2_with fail
 refine (tally_Pseudo.calls k b1 h1 l1 b2 h2 l2 n 58 r _ H.out).mono ?_
 rintro e w2 ⟨rfl, hb⟩
 go_wp2_with fail
 go_ret
 exact ⟨rfl, below_step (by go_grown) hb⟩

/-! ### icmp_of: function 45 (by hand) -/
set_option maxHeartbeats 1000000 in
set_option maxRecDepth 100000 in
theorem icmp_of.calls (s : Bool) (kind code rest : Int) (data : ByteArray) (b1 : Bool) (h1 l1 : Int) (b2 : Bool) (h2 l2 : Int) (w : World) :
  Calls Tryd.prog 45 #[.agg #[.bool s, .int .i64 kind, .int .i64 code, .int .i64 rest, .string data], .agg #[.bool b1, .int .u64 h1, .int .u64 l1], .agg #[.bool b2, .int .u64 h2, .int .u64 l2]] w fun e w' => e = .returned (.iface (if s = true then 109 else 110) (.agg #[.bool s, .int .i64 kind, .int .i64 code, .int .i64 rest, .string data, .bool b1, .int .u64 h1, .int .u64 l1, .bool b2, .int .u64 h2, .int .u64 l2])) ∧ Below w.heap.size w w' := by
 have hu58 := Tryd.underlying107
 have hu23 := Tryd.underlying43
 have hu26 := Tryd.underlying28
 go_enter Tryd.func45, Tryd.ntmps45
 cases s
 all_goals
  go_wp2
  go_ret
  exact ⟨rfl, by go_grown⟩

/-! ### icmp_Lay: function 25 (by hand) -/
/-- What else is summed up with a message. -/
def icmp_Lay.side (k : Nat) (s : Bool) (b1 : Bool) (h1 l1 : Int) (b2 : Bool) (h2 l2 : Int) (n : Int) : Option Int := if s = true then tally_Pseudo.f k b1 h1 l1 b2 h2 l2 n 58 else some 0
def icmp_Lay.f (k : Nat) (a0_0 : Bool) (a0_1 a0_2 a0_3 : Int) (a0_4 : ByteArray) (a1_0 : Bool) (a1_1 a1_2 : Int) (a2_0 : Bool) (a2_1 a2_2 : Int) : Option (ByteArray × Int) :=
 if a0_0 = true ∧ (a1_0 && a2_0) = false then some (⟨#[]⟩, 70) else
 (icmp_base_may.f a0_0 a0_1 a0_2 a0_3 a0_4 a1_0 a1_1 a1_2 a2_0 a2_1 a2_2).bind fun m => if m = false then some (⟨#[]⟩, 70) else
 (icmp_Lay.side k a0_0 a1_0 a1_1 a1_2 a2_0 a2_1 a2_2 ((8 : Int) + (a0_4.size : Int))).bind fun p =>
 (tally_Sum.f k [icmp_base_bytes.of a0_1 a0_2 a0_3 a0_4 0]).bind fun t => (tally_Add.f p t).bind fun c =>
 if 0 ≤ c ∧ c ≤ 65535 ∧ a0_4.size ≤ 65000 then some (strOfNums (icmp_base_bytes.of a0_1 a0_2 a0_3 a0_4 (65535 - c)), 0) else none
theorem icmp_base_bytes.of_length (kind code rest : Int) (data : ByteArray) (check : Int) : (icmp_base_bytes.of kind code rest data check).length = 8 + data.size := by
 unfold icmp_base_bytes.of
 rw [List.length_append, List.length_append, List.length_append, MBe.be_length, MBe.be_length, bytesOf_length]; simp
set_option maxHeartbeats 1000000 in
set_option maxRecDepth 100000 in
theorem icmp_Lay.four (k : Nat) (kind code rest : Int) (data : ByteArray) (b1 : Bool) (h1 l1 : Int) (b2 : Bool) (h2 l2 : Int) (r : ByteArray × Int) (w : World) (h : icmp_Lay.f k false kind code rest data b1 h1 l1 b2 h2 l2 = some r) :
  Calls Tryd.prog 25 #[.agg #[.bool false, .int .i64 kind, .int .i64 code, .int .i64 rest, .string data], .agg #[.bool b1, .int .u64 h1, .int .u64 l1], .agg #[.bool b2, .int .u64 h2, .int .u64 l2]] w fun e w' => e = .returned (.tuple #[.string r.1, .int .i64 r.2]) ∧ Below w.heap.size w w' := by
 unfold icmp_Lay.f at h
 rw [if_neg (by simp)] at h
 obtain ⟨m, hm, h0⟩ := Option.bind_eq_some_iff.1 h
 have HM := Aside0.mk hm
 have H := Aside0.mk h0
 clear h h0 hm
 have HB := Aside0.mk (Below.refl w.heap.size w)
 have hu23 := Tryd.underlying43
 have hu26 := Tryd.underlying28
 go_enter Tryd.func25, Tryd.ntmps25
 go_wp2_with fail
 refine (icmp_of.calls false kind code rest data b1 h1 l1 b2 h2 l2 _).mono ?_
 rintro e w2 ⟨rfl, hb⟩
 replace HB := Aside0.mk (show Below w.heap.size w w2 from below_step (by go_grown) hb)
 clear hb
 rw [if_neg (by decide)]
 go_wp2_with fail
 refine (icmp_four_ends.calls _ _).mono ?_
 rintro e w3 ⟨rfl, hb⟩
 replace HB := sh_S HB hb
 clear hb
 go_wp2_with fail
 refine (icmp_base_may.calls false kind code rest data b1 h1 l1 b2 h2 l2 m _ HM.out).mono ?_
 rintro e w4 ⟨rfl, hb⟩
 replace HB := sh_S HB hb
 clear hb
 cases m with
 | false =>
  obtain rfl := Option.some.inj ((if_pos rfl).symm.trans H.out)
  go_wp2_with fail
  go_ret2
  exact ⟨rfl, HB.out⟩
 | true =>
  have h := H.out
  clear H
  rw [if_neg (by decide)] at h
  obtain ⟨p, hp, h_⟩ := Option.bind_eq_some_iff.1 h
  clear h
  obtain ⟨t, ht, h⟩ := Option.bind_eq_some_iff.1 h_
  clear h_
  obtain ⟨c, hc, h_⟩ := Option.bind_eq_some_iff.1 h
  clear h
  have h := h_
  clear h_
  obtain rfl : (0 : Int) = p := Option.some.inj hp
  by_cases hq : 0 ≤ c ∧ c ≤ 65535 ∧ data.size ≤ 65000
  · rw [if_pos hq] at h
    obtain rfl := Option.some.inj h
    have HT := Aside0.mk ht; have HC := Aside0.mk hc
    have HSZ := Aside0.mk (show data.size ≤ 140737488355200 by omega)
    have hc0 := hq.1; have hc1 := hq.2.1
    clear h hp ht hc hq
    go_wp2_with fail
    refine (icmp_base_bytes.calls false kind code rest data b1 h1 l1 b2 h2 l2 0 HSZ.out (by decide) _).mono ?_
    rintro e w5 ⟨v5, rfl, ho, hb⟩
    replace HB := sh_S HB hb
    obtain ⟨A5, c5, rfl⟩ := Kd.R_slice ho
    have HO := Aside0.mk (Kd.R_reads' ho)
    clear ho hb
    obtain ⟨L5, hL5⟩ : ∃ L5, icmp_base_bytes.of kind code rest data 0 = L5 := ⟨_, rfl⟩
    rw [hL5] at HO HT ⊢
    clear hL5
    go_wp2_with fail
    refine (icmp_four_beside.calls _ _ _).mono ?_
    rintro e w6 ⟨rfl, hb⟩
    replace HB := sh_S HB hb
    have HO6 := Aside0.mk (Kd.C_below HO.out.2.2 hb)
    clear hb
    go_wp2_with fail
    refine (tally_Sum.calls k (some _) 1 [L5] t _ (MStr.C_var HO6.out HO.out.2.1 rfl) (Nat.le_refl _) HT.out).mono ?_
    rintro e w7 ⟨rfl, ⟨nd, rfl⟩⟩
    go_wp2_with fail
    refine (tally_Add.calls 0 t c _ HC.out).mono ?_
    rintro e w8 ⟨rfl, ⟨nd8, rfl⟩⟩
    replace HB := Aside0.mk (show Below w.heap.size w _ from (sh_B HB))
    go_wp2_with fail
    refine (icmp_base_bytes.calls false kind code rest data b1 h1 l1 b2 h2 l2 (65535 - c) HSZ.out (by omega) _).mono ?_
    rintro e w9 ⟨v9, rfl, ho, hb⟩
    replace HB := sh_S HB hb
    obtain ⟨A9, c9, rfl⟩ := Kd.R_slice ho
    have hcv := Kd.C_string (src := 70) (dst := 9) (e := 5) (c := c9) Tryd.underlying70 Tryd.underlying5 Tryd.underlying9 (Kd.R_reads' ho).2.2
    clear ho hb
    obtain ⟨L9, hL9⟩ : ∃ L9, icmp_base_bytes.of kind code rest data (65535 - c) = L9 := ⟨_, rfl⟩
    have HL9 := Aside0.mk hL9
    rw [hL9] at hcv ⊢
    clear hL9
    go_wp2_with fail
    go_ret2
    refine ⟨?_, HB.out⟩
    rw [HL9.out]; rfl
  · rw [if_neg hq] at h; cases h
set_option maxHeartbeats 1000000 in
set_option maxRecDepth 100000 in
theorem icmp_Lay.six (k : Nat) (kind code rest : Int) (data : ByteArray) (b1 : Bool) (h1 l1 : Int) (b2 : Bool) (h2 l2 : Int) (r : ByteArray × Int) (w : World) (h : icmp_Lay.f k true kind code rest data b1 h1 l1 b2 h2 l2 = some r) :
  Calls Tryd.prog 25 #[.agg #[.bool true, .int .i64 kind, .int .i64 code, .int .i64 rest, .string data], .agg #[.bool b1, .int .u64 h1, .int .u64 l1], .agg #[.bool b2, .int .u64 h2, .int .u64 l2]] w fun e w' => e = .returned (.tuple #[.string r.1, .int .i64 r.2]) ∧ Below w.heap.size w w' := by
 unfold icmp_Lay.f at h
 by_cases hbb : (b1 && b2) = false
 · rw [if_pos ⟨rfl, hbb⟩] at h
   obtain rfl := Option.some.inj h
   clear h
   have HB := Aside0.mk (Below.refl w.heap.size w)
   have hu23 := Tryd.underlying43
   have hu26 := Tryd.underlying28
   go_enter Tryd.func25, Tryd.ntmps25
   go_wp2_with fail
   refine (icmp_of.calls true kind code rest data b1 h1 l1 b2 h2 l2 _).mono ?_
   rintro e w2 ⟨rfl, hb⟩
   replace HB := Aside0.mk (show Below w.heap.size w w2 from below_step (by go_grown) hb)
   clear hb
   rw [if_pos rfl]
   go_wp2_with fail
   refine (icmp_six_ends.calls true kind code rest data b1 h1 l1 b2 h2 l2 _).mono ?_
   rintro e w3 ⟨rfl, hb⟩
   replace HB := sh_S HB hb
   clear hb
   rw [hbb]
   go_wp2_with fail
   go_ret2
   exact ⟨rfl, HB.out⟩
 rw [if_neg (fun q => hbb q.2)] at h
 replace hbb : (b1 && b2) = true := by simpa using hbb
 obtain ⟨m, hm, h0⟩ := Option.bind_eq_some_iff.1 h
 have HM := Aside0.mk hm
 have H := Aside0.mk h0
 clear h h0 hm
 have HB := Aside0.mk (Below.refl w.heap.size w)
 have hu23 := Tryd.underlying43
 have hu26 := Tryd.underlying28
 go_enter Tryd.func25, Tryd.ntmps25
 go_wp2_with fail
 refine (icmp_of.calls true kind code rest data b1 h1 l1 b2 h2 l2 _).mono ?_
 rintro e w2 ⟨rfl, hb⟩
 replace HB := Aside0.mk (show Below w.heap.size w w2 from below_step (by go_grown) hb)
 clear hb
 rw [if_pos rfl]
 go_wp2_with fail
 refine (icmp_six_ends.calls true kind code rest data b1 h1 l1 b2 h2 l2 _).mono ?_
 rintro e w3 ⟨rfl, hb⟩
 rw [hbb]
 replace HB := sh_S HB hb
 clear hb
 go_wp2_with fail
 refine (icmp_base_may.calls true kind code rest data b1 h1 l1 b2 h2 l2 m _ HM.out).mono ?_
 rintro e w4 ⟨rfl, hb⟩
 replace HB := sh_S HB hb
 clear hb
 cases m with
 | false =>
  obtain rfl := Option.some.inj ((if_pos rfl).symm.trans H.out)
  go_wp2_with fail
  go_ret2
  exact ⟨rfl, HB.out⟩
 | true =>
  have h := H.out
  clear H
  rw [if_neg (by decide)] at h
  obtain ⟨p, hp, h_⟩ := Option.bind_eq_some_iff.1 h
  clear h
  obtain ⟨t, ht, h⟩ := Option.bind_eq_some_iff.1 h_
  clear h_
  obtain ⟨c, hc, h_⟩ := Option.bind_eq_some_iff.1 h
  clear h
  have h := h_
  clear h_
  have hp : tally_Pseudo.f k b1 h1 l1 b2 h2 l2 ((8 : Int) + (data.size : Int)) 58 = some p := hp
  by_cases hq : 0 ≤ c ∧ c ≤ 65535 ∧ data.size ≤ 65000
  · rw [if_pos hq] at h
    obtain rfl := Option.some.inj h
    have HP := Aside0.mk hp; have HT := Aside0.mk ht; have HC := Aside0.mk hc
    have HSZ := Aside0.mk (show data.size ≤ 140737488355200 by omega)
    have hc0 := hq.1; have hc1 := hq.2.1
    clear h hp ht hc hq
    go_wp2_with fail
    refine (icmp_base_bytes.calls true kind code rest data b1 h1 l1 b2 h2 l2 0 HSZ.out (by decide) _).mono ?_
    rintro e w5 ⟨v5, rfl, ho, hb⟩
    replace HB := sh_S HB hb
    obtain ⟨A5, c5, rfl⟩ := Kd.R_slice ho
    have HO := Aside0.mk (Kd.R_reads' ho)
    clear ho hb
    obtain ⟨L5, hL5⟩ : ∃ L5, icmp_base_bytes.of kind code rest data 0 = L5 := ⟨_, rfl⟩
    have hn5 : (L5.length : Int) = (8 : Int) + (data.size : Int) := by rw [← hL5, icmp_base_bytes.of_length]; omega
    rw [hL5] at HO HT ⊢
    rw [← hn5] at HP
    clear hL5 hn5
    go_wp2_with fail
    refine (icmp_six_beside.calls k true kind code rest data b1 h1 l1 b2 h2 l2 _ p _ HP.out).mono ?_
    rintro e w6 ⟨rfl, hb⟩
    replace HB := sh_S HB hb
    have HO6 := Aside0.mk (Kd.C_below HO.out.2.2 hb)
    clear hb
    go_wp2_with fail
    refine (tally_Sum.calls k (some _) 1 [L5] t _ (MStr.C_var HO6.out HO.out.2.1 rfl) (Nat.le_refl _) HT.out).mono ?_
    rintro e w7 ⟨rfl, ⟨nd, rfl⟩⟩
    go_wp2_with fail
    refine (tally_Add.calls p t c _ HC.out).mono ?_
    rintro e w8 ⟨rfl, ⟨nd8, rfl⟩⟩
    replace HB := Aside0.mk (show Below w.heap.size w _ from (sh_B HB))
    go_wp2_with fail
    refine (icmp_base_bytes.calls true kind code rest data b1 h1 l1 b2 h2 l2 (65535 - c) HSZ.out (by omega) _).mono ?_
    rintro e w9 ⟨v9, rfl, ho, hb⟩
    replace HB := sh_S HB hb
    obtain ⟨A9, c9, rfl⟩ := Kd.R_slice ho
    have hcv := Kd.C_string (src := 70) (dst := 9) (e := 5) (c := c9) Tryd.underlying70 Tryd.underlying5 Tryd.underlying9 (Kd.R_reads' ho).2.2
    clear ho hb
    obtain ⟨L9, hL9⟩ : ∃ L9, icmp_base_bytes.of kind code rest data (65535 - c) = L9 := ⟨_, rfl⟩
    have HL9 := Aside0.mk hL9
    rw [hL9] at hcv ⊢
    clear hL9
    go_wp2_with fail
    go_ret2
    refine ⟨?_, HB.out⟩
    rw [HL9.out]; rfl
  · rw [if_neg hq] at h; cases h
theorem icmp_Lay.mono : ∀ a0 a1 a2 a3 a4 a5 a6 a7 a8 a9 a10 k, LeO (icmp_Lay.f k a0 a1 a2 a3 a4 a5 a6 a7 a8 a9 a10) (icmp_Lay.f (k + 1) a0 a1 a2 a3 a4 a5 a6 a7 a8 a9 a10) := by
 intro a0 a1 a2 a3 a4 a5 a6 a7 a8 a9 a10 k
 unfold icmp_Lay.f icmp_Lay.side
 repeat' first | (with_reducible exact tally_Sum.mono _ _) | (with_reducible exact tally_Pseudo.mono _ _ _ _ _ _ _ _ _) | (with_reducible exact LeO.refl _) | (with_reducible exact LeO.none _) | (with_reducible refine LeO.ite ?_ ?_) | (with_reducible refine LeO.bind ?_ (fun _ => ?_))
theorem icmp_Lay.calls (k : Nat) (a0_0 : Bool) (a0_1 : Int) (a0_2 : Int) (a0_3 : Int) (a0_4 : ByteArray) (a1_0 : Bool) (a1_1 : Int) (a1_2 : Int) (a2_0 : Bool) (a2_1 : Int) (a2_2 : Int) (r1 : ByteArray) (r2 : Int) (w : World) (h : icmp_Lay.f k a0_0 a0_1 a0_2 a0_3 a0_4 a1_0 a1_1 a1_2 a2_0 a2_1 a2_2 = some (r1, r2)) :
  Calls Tryd.prog 25 #[.agg #[.bool a0_0, .int .i64 a0_1, .int .i64 a0_2, .int .i64 a0_3, .string a0_4], .agg #[.bool a1_0, .int .u64 a1_1, .int .u64 a1_2], .agg #[.bool a2_0, .int .u64 a2_1, .int .u64 a2_2]] w fun e w' => e = .returned (.tuple #[.string r1, .int .i64 r2]) ∧ Below w.heap.size w w' := by
 cases a0_0 with
 | false => exact icmp_Lay.four k a0_1 a0_2 a0_3 a0_4 a1_0 a1_1 a1_2 a2_0 a2_1 a2_2 (r1, r2) w h
 | true => exact icmp_Lay.six k a0_1 a0_2 a0_3 a0_4 a1_0 a1_1 a1_2 a2_0 a2_1 a2_2 (r1, r2) w h

/-! ### octet_Get: function 48 -/
mutual
def octet_Get.j0 : Nat → List Int → Int → Int → Bool → Option (Int × Bool)
 | 0, _, _, _, _ => none
 | k + 1, x0, x1, x2, x33 => if x33 = true then (some (0, false)) else (octet_Get.l0 k x0 x1 0 x2 0)
def octet_Get.l0 : Nat → List Int → Int → Int → Int → Int → Option (Int × Bool)
 | 0, _, _, _, _, _ => none
 | k + 1, x0, x1, x8, x34, x35 => if x35 < x34 then (if 0 ≤ (wrap64 (x1 + x35)) then (if (wrap64 (x1 + x35)) < (x0.length : Int) then (octet_Get.l0 k x0 x1 (Go.bits .or .u64 (IntKind.u64.wrap (x8 * 256)) (IntKind.u64.wrap (rd x0 (wrap64 (x1 + x35))))) x34 (wrap64 (x35 + 1))) else (none)) else (none)) else (some (x8, true))
end
def octet_Get.f (k : Nat) (l0 : List Int) (a1 : Int) (a2 : Int) : Option (Int × Bool) := if a2 < 0 then (octet_Get.j0 k l0 a1 a2 true) else (if a2 > 8 then (octet_Get.j0 k l0 a1 a2 true) else (if a1 < 0 then (octet_Get.j0 k l0 a1 a2 true) else (if a1 > (l0.length : Int) then (octet_Get.j0 k l0 a1 a2 true) else (octet_Get.j0 k l0 a1 a2 (decide (a2 > (wrap64 ((l0.length : Int) - a1))))))))
theorem octet_Get.mono_l : ∀ k, (∀ y0 y1 y2 y3, LeO (octet_Get.j0 k y0 y1 y2 y3) (octet_Get.j0 (k + 1) y0 y1 y2 y3)) ∧ (∀ y0 y1 y2 y3 y4, LeO (octet_Get.l0 k y0 y1 y2 y3 y4) (octet_Get.l0 (k + 1) y0 y1 y2 y3 y4))
 | 0 => ⟨fun _ _ _ _ r h => by simp [octet_Get.j0] at h, fun _ _ _ _ _ r h => by simp [octet_Get.l0] at h⟩
 | k + 1 => by
  obtain ⟨ih0, ih1⟩ := octet_Get.mono_l k
  refine ⟨?_, ?_⟩
  ·
   intro y0 y1 y2 y3
   unfold octet_Get.j0
   repeat' first
   | (with_reducible exact ih0 _ _ _ _)
   | (with_reducible exact ih1 _ _ _ _ _)
   | (with_reducible exact LeO.refl _)
   | (with_reducible exact LeO.none _)
   | (with_reducible refine LeO.ite ?_ ?_)
   | (with_reducible refine LeO.bind ?_ (fun _ => ?_))
   | exact ih0 _ _ _ _
   | exact ih1 _ _ _ _ _
   | exact LeO.none _
   | refine LeO.ite ?_ ?_
   | refine LeO.bind ?_ (fun _ => ?_)
  ·
   intro y0 y1 y2 y3 y4
   unfold octet_Get.l0
   repeat' first
   | (with_reducible exact ih0 _ _ _ _)
   | (with_reducible exact ih1 _ _ _ _ _)
   | (with_reducible exact LeO.refl _)
   | (with_reducible exact LeO.none _)
   | (with_reducible refine LeO.ite ?_ ?_)
   | (with_reducible refine LeO.bind ?_ (fun _ => ?_))
   | exact ih0 _ _ _ _
   | exact ih1 _ _ _ _ _
   | exact LeO.none _
   | refine LeO.ite ?_ ?_
   | refine LeO.bind ?_ (fun _ => ?_)
theorem octet_Get.mono : ∀ a0 a1 a2 k, LeO (octet_Get.f k a0 a1 a2) (octet_Get.f (k + 1) a0 a1 a2) := by
 intro a0 a1 a2 k
 obtain ⟨ih0, ih1⟩ := octet_Get.mono_l k
 unfold octet_Get.f
 repeat' first
   | (with_reducible exact ih0 _ _ _ _)
   | (with_reducible exact ih1 _ _ _ _ _)
   | (with_reducible exact LeO.refl _)
   | (with_reducible exact LeO.none _)
   | (with_reducible refine LeO.ite ?_ ?_)
   | (with_reducible refine LeO.bind ?_ (fun _ => ?_))
   | exact ih0 _ _ _ _
   | exact ih1 _ _ _ _ _
   | exact LeO.none _
   | refine LeO.ite ?_ ?_
   | refine LeO.bind ?_ (fun _ => ?_)
set_option maxHeartbeats 8000000 in
set_option maxRecDepth 100000 in
theorem octet_Get.calls (k : Nat) (A0 : Option Addr) (c0 : Nat) (l0 : List Int) (a1 : Int) (a2 : Int) (r1 : Int) (r2 : Bool) (w : World) (hr0 : Kd.C (Kd.int .u8) w A0 l0.length l0) (hc0 : l0.length ≤ c0) (h : octet_Get.f k l0 a1 a2 = some (r1, r2)) :
  Calls Tryd.prog 48 #[.slice A0 l0.length c0, .int .i64 a1, .int .i64 a2] w fun e w' => e = .returned (.tuple #[.int .u64 r1, .bool r2]) ∧ Drawn0 w w' := by
 have HR0 := Aside0.mk hr0
 have HC0 := Aside0.mk hc0
 clear hr0 hc0
 have H : (if a2 < 0 then (octet_Get.j0 k l0 a1 a2 true) else (if a2 > 8 then (octet_Get.j0 k l0 a1 a2 true) else (if a1 < 0 then (octet_Get.j0 k l0 a1 a2 true) else (if a1 > (l0.length : Int) then (octet_Get.j0 k l0 a1 a2 true) else (octet_Get.j0 k l0 a1 a2 (decide (a2 > (wrap64 ((l0.length : Int) - a1))))))))) = some (r1, r2) := h
 clear h
 have HC4 := Aside0.mk H
 clear H
 go_enter Tryd.func48, Tryd.ntmps48
 go_upto_region 1 with (fail)
 go_cut [33] (fun v33 wc => ∃ (kq : Nat) (x33_3 : Bool), v33 = .bool x33_3 ∧ Aside0 (octet_Get.j0 kq l0 a1 a2 x33_3 = some (r1, r2)) ∧ Aside0 (kq ≤ k) ∧ Drawn0 w wc)
 case first =>
  have H := HC4.out
  clear HC4
  by_cases c5 : a2 < 0
  ·
   rw [if_pos c5] at H
   have c5b0 : decide (a2 < 0) = true := decide_eq_true c5
   clear c5
   (first | rw [c5b0] | (simp only [i64_w, i32_w]; rw [c5b0]) | skip)
   have H' := Aside0.mk H
   clear H
   go_wp2
   go_meet
   case rel => exact ⟨_, (true), (by first | rfl | (simp; done) | (simp [*]; done)), H', ⟨by first | omega | exact Nat.le_refl _⟩, by repeat (first | exact Drawn0.refl _ | apply Drawn0.step)⟩
  ·
   rw [if_neg c5] at H
   have c5b0 : decide (a2 < 0) = false := decide_eq_false c5
   clear c5
   (first | rw [c5b0] | (simp only [i64_w, i32_w]; rw [c5b0]) | skip)
   by_cases c6 : a2 > 8
   ·
    rw [if_pos c6] at H
    have c6b0 : decide (8 < a2) = true := decide_eq_true c6
    clear c6
    have H' := Aside0.mk H
    clear H
    go_wp2
    go_meet
    case rel => exact ⟨_, (true), (by first | rfl | (simp; done) | (simp [*]; done)), H', ⟨by first | omega | exact Nat.le_refl _⟩, by repeat (first | exact Drawn0.refl _ | apply Drawn0.step)⟩
   ·
    rw [if_neg c6] at H
    have c6b0 : decide (8 < a2) = false := decide_eq_false c6
    clear c6
    by_cases c7 : a1 < 0
    ·
     rw [if_pos c7] at H
     have c7b0 : decide (a1 < 0) = true := decide_eq_true c7
     clear c7
     have H' := Aside0.mk H
     clear H
     go_wp2
     go_meet
     case rel => exact ⟨_, (true), (by first | rfl | (simp; done) | (simp [*]; done)), H', ⟨by first | omega | exact Nat.le_refl _⟩, by repeat (first | exact Drawn0.refl _ | apply Drawn0.step)⟩
    ·
     rw [if_neg c7] at H
     have c7b0 : decide (a1 < 0) = false := decide_eq_false c7
     clear c7
     by_cases c8 : a1 > (l0.length : Int)
     ·
      rw [if_pos c8] at H
      have c8b0 : decide ((l0.length : Int) < a1) = true := decide_eq_true c8
      clear c8
      have H' := Aside0.mk H
      clear H
      go_wp2
      go_meet
      case rel => exact ⟨_, (true), (by first | rfl | (simp; done) | (simp [*]; done)), H', ⟨by first | omega | exact Nat.le_refl _⟩, by repeat (first | exact Drawn0.refl _ | apply Drawn0.step)⟩
     ·
      rw [if_neg c8] at H
      have c8b0 : decide ((l0.length : Int) < a1) = false := decide_eq_false c8
      clear c8
      have H' := Aside0.mk H
      clear H
      go_wp2
      go_meet
      case rel => exact ⟨_, (decide (a2 > (wrap64 ((l0.length : Int) - a1)))), (by first | rfl | (simp; done) | (simp [*]; done)), H', ⟨by first | omega | exact Nat.le_refl _⟩, by repeat (first | exact Drawn0.refl _ | apply Drawn0.step)⟩
 case rest =>
  clear HC4
  try clear p2
  try clear c4
  try clear c5
  try clear c5b0
  try clear c6
  try clear c6b0
  try clear p6
  try clear c7
  try clear c7b0
  try clear c8
  try clear c8b0
  obtain ⟨kq, x33_3, rfl, HA, HJ3, ⟨mc3, rfl⟩⟩ := hcut
  cases kq with
  | zero => exact absurd HA.out (by simp [octet_Get.j0])
  | succ kj3 =>
   have H := HA.out
   clear HA
   simp only [octet_Get.j0] at H
   by_cases c9 : x33_3 = true
   ·
    subst c9
    rw [if_pos rfl] at H
    simp only [Option.some.injEq, Prod.mk.injEq] at H
    obtain ⟨rfl, rfl⟩ := H
    go_wp2
    go_ret2
    exact ⟨by first | rfl | (simp; done) | (simp [*]; done), by repeat (first | exact Drawn0.refl _ | apply Drawn0.step)⟩
   ·
    replace c9 := Bool.eq_false_iff.mpr c9
    subst c9
    rw [if_neg (show ¬ (false = true) by decide)] at H
    have H' := Aside0.mk H
    clear H
    go_wp2
    go_loopg [8, 35] kj3 (fun kq v8 v35 w' => ∃ (x8_2 : Int) (x35_2 : Int), v8 = .int .u64 x8_2 ∧ v35 = .int .i64 x35_2 ∧ Aside0 (octet_Get.l0 kq l0 a1 x8_2 a2 x35_2 = some (r1, r2)) ∧ Aside0 (kq ≤ kj3) ∧ Drawn0 w w')
    case atStart => exact ⟨(0), (0), (by first | rfl | (simp; done) | (simp [*]; done)), (by first | rfl | (simp; done) | (simp [*]; done)), H', ⟨Nat.le_refl _⟩, by repeat (first | exact Drawn0.refl _ | apply Drawn0.step)⟩
    case round =>
     clear H'
     try clear p2
     try clear c3
     try clear c4
     try clear c5
     try clear c5b0
     try clear c6
     try clear c6b0
     try clear p6
     try clear c7
     try clear c7b0
     try clear c8
     try clear c8b0
     try clear c9
     try clear p2
     try clear p6
     obtain ⟨x8_2, x35_2, rfl, rfl, HA, HK2, ⟨m2, rfl⟩⟩ := hrel
     cases gk with
     | zero => exact absurd HA.out (by simp [octet_Get.l0])
     | succ k2 =>
      have H := HA.out
      clear HA
      simp only [octet_Get.l0] at H
      by_cases c10 : x35_2 < a2
      ·
       rw [if_pos c10] at H
       have c10b0 : decide (x35_2 < a2) = true := decide_eq_true c10
       clear c10
       obtain ⟨ji11, hji11⟩ : ∃ j_ : Int, (wrap64 (a1 + x35_2)) = j_ := ⟨_, rfl⟩
       replace H : (if 0 ≤ (ji11) then (if (ji11) < (l0.length : Int) then (octet_Get.l0 k2 l0 a1 (Go.bits .or .u64 (IntKind.u64.wrap (x8_2 * 256)) (IntKind.u64.wrap (rd l0 (ji11)))) a2 (wrap64 (x35_2 + 1))) else (none)) else (none)) = some (r1, r2) := by first | (rw [hji11] at H; exact H) | (simp only [hji11] at H ⊢; exact H)
       have hji11w : (IntKind.i64.wrap (a1 + x35_2)) = ji11 := (i64_w _).trans hji11
       by_cases c12 : 0 ≤ (ji11)
       ·
        rw [if_pos c12] at H
        have c12b0 : decide (0 ≤ (ji11)) = true := decide_eq_true c12
        clear c12
        by_cases c13 : (ji11) < (l0.length : Int)
        ·
         rw [if_pos c13] at H
         have c13b0 : decide ((ji11) < (l0.length : Int)) = true := decide_eq_true c13
         clear c13
         have H' := Aside0.mk H
         clear H
         have p151 : 0 ≤ ((ji11) : Int) := of_decide_eq_true (by first | (with_reducible assumption) | assumption)
         have q151 : (ji11) < (l0.length : Int) := of_decide_eq_true (by first | (with_reducible assumption) | assumption)
         obtain ⟨ad151, e151, hx151_0⟩ := Kd.at_int HR0.out (ji11) p151 q151
         cases e151
         replace p151 := eq_true p151
         replace q151 := eq_true q151
         go_wp2
         go_roundg k2
         case measure => have := HJ3.out; have := HK2.out; omega
         case rel => exact ⟨(Go.bits .or .u64 (IntKind.u64.wrap (x8_2 * 256)) (IntKind.u64.wrap (rd l0 (ji11)))), (wrap64 (x35_2 + 1)), (by first | rfl | (simp; done) | (simp only [← hji11] <;> (first | rfl | simp)) | (simp [*]; done)), (by first | rfl | (simp; done) | (simp [*]; done)), H', ⟨by have := HJ3.out; have := HK2.out; omega⟩, by repeat (first | exact Drawn0.refl _ | apply Drawn0.step)⟩
        ·
         rw [if_neg c13] at H
         exact absurd H (by simp)
       ·
        rw [if_neg c12] at H
        exact absurd H (by simp)
      ·
       rw [if_neg c10] at H
       have c10b0 : decide (x35_2 < a2) = false := decide_eq_false c10
       clear c10
       simp only [Option.some.injEq, Prod.mk.injEq] at H
       obtain ⟨rfl, rfl⟩ := H
       go_wp2
       go_ret2
       exact ⟨by first | rfl | (simp; done) | (simp [*]; done), by repeat (first | exact Drawn0.refl _ | apply Drawn0.step)⟩

end Go.Proofs.YtaoopneiglgnkaaDoor.PBase
