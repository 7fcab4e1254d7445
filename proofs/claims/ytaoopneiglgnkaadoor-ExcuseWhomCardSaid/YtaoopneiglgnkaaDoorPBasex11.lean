/- Functions of the program as Lean functions, each with a proof that a call comes to what it says. Conditions: those of each theorem. Laid by a program of this session. -/
import Derived.Test.YtaoopneiglgnkaaDoorPBasex0
import Derived.Test.YtaoopneiglgnkaaDoorPBasex3
import Derived.Test.YtaoopneiglgnkaaDoorPBasex5
import Derived.Test.YtaoopneiglgnkaaDoorPBasex6
import Derived.Test.YtaoopneiglgnkaaDoorPBasex9
namespace Go.Proofs.YtaoopneiglgnkaaDoor.PBase
open Go.RowKit Go.Proofs.YtaoopneiglgnkaaDoor Go.Proofs.YtaoopneiglgnkaaDoorW.PrintWords Go.Proofs.YtaoopneiglgnkaaDoorW.PrintLast Go.Proofs.YtaoopneiglgnkaaDoorW.PrintMore
attribute [local go_sem] max2_int min2_int max_two min_two max_three min_three max_four min_four   -- for this text's walks alone
set_option linter.unusedVariables false
set_option linter.unusedSimpArgs false

/-! ### excuse_quote: function 24 -/
def excuse_quote.f (k : Nat) (a0 : ByteArray) : Option (ByteArray × Bool × Int × Int) := (excuse_isSix.f a0).bind fun t224 => (if t224 = true then ((ip6_Take.f k a0).bind fun bt225 => (if 0 ≤ (mn (wrap64 (40 + (bt225.2.2.2.2.2.2.2.2.2.2.1.size : Int))) 1232) then (if (mn (wrap64 (40 + (bt225.2.2.2.2.2.2.2.2.2.2.1.size : Int))) 1232) ≤ (a0.size : Int) then (some (a0.extract 0 ((mn (wrap64 (40 + (bt225.2.2.2.2.2.2.2.2.2.2.1.size : Int))) 1232) : Int).toNat, bt225.2.2.2.2.1, bt225.2.2.2.2.2.1, bt225.2.2.2.2.2.2.1)) else (none)) else (none))) else ((ip4_Take.f k a0).bind fun bt238 => (if 0 ≤ (wrap64 ((wrap64 (20 + (bt238.2.2.2.2.2.2.2.2.2.2.2.2.2.1.size : Int))) + (mn 8 (bt238.2.2.2.2.2.2.2.2.2.2.2.2.2.2.1.size : Int)))) then (if (wrap64 ((wrap64 (20 + (bt238.2.2.2.2.2.2.2.2.2.2.2.2.2.1.size : Int))) + (mn 8 (bt238.2.2.2.2.2.2.2.2.2.2.2.2.2.2.1.size : Int)))) ≤ (a0.size : Int) then (some (a0.extract 0 ((wrap64 ((wrap64 (20 + (bt238.2.2.2.2.2.2.2.2.2.2.2.2.2.1.size : Int))) + (mn 8 (bt238.2.2.2.2.2.2.2.2.2.2.2.2.2.2.1.size : Int)))) : Int).toNat, bt238.2.2.2.2.2.2.2.1, bt238.2.2.2.2.2.2.2.2.1, bt238.2.2.2.2.2.2.2.2.2.1)) else (none)) else (none))))
theorem excuse_quote.mono : ∀ a0 k, LeO (excuse_quote.f k a0) (excuse_quote.f (k + 1) a0) := by
 intro a0 k
 unfold excuse_quote.f
 repeat' first
   | (with_reducible exact ip4_Take.mono _ _)
   | (with_reducible exact ip6_Take.mono _ _)
   | (with_reducible exact LeO.refl _)
   | (with_reducible exact LeO.none _)
   | (with_reducible refine LeO.ite ?_ ?_)
   | (with_reducible refine LeO.bind ?_ (fun _ => ?_))
   | exact ip4_Take.mono _ _
   | exact ip6_Take.mono _ _
   | exact LeO.none _
   | refine LeO.ite ?_ ?_
   | refine LeO.bind ?_ (fun _ => ?_)
def excuse_quote.T3 : Bool × List (List Nat × List Nat) := (true, [([], []), ([], []), ([1], [1]), ([2], [2]), ([3], [3]), ([4], [4]), ([0, 5], [0, 5]), ([], []), ([7], [7]), ([6, 0, 1, 2, 3, 4, 5, 6], [6]), ([8, 9, 0, 1, 2, 3, 4, 5, 6, 7, 8, 9], [8])])
def excuse_quote.B3 : List Nat := [0, 0, 2, 6, 14, 30, 63, 0, 128, 127, 1023]
theorem excuse_quote.tab3 : rtab .any (opsOf Tryd.f24 3) = excuse_quote.T3 := by kernel_rfl
theorem excuse_quote.bits3 : waitsOk excuse_quote.T3.2 excuse_quote.B3 = true := by kernel_rfl
def excuse_quote.T5 : Bool × List (List Nat × List Nat) := (true, [([], []), ([], []), ([1], [1]), ([2], [2]), ([3], [3]), ([], []), ([5], [5]), ([6], [6]), ([7], [7]), ([4, 8], [4, 8]), ([0, 9], [0, 9]), ([], []), ([11], [11]), ([10, 0, 1, 2, 3, 4, 5, 6, 7, 8, 9, 10], [10]), ([12, 13, 0, 1, 2, 3, 4, 5, 6, 7, 8, 9, 10, 11, 12, 13], [12])])
def excuse_quote.B5 : List Nat := [0, 0, 2, 6, 14, 0, 32, 96, 224, 510, 1023, 0, 2048, 2047, 16383]
theorem excuse_quote.tab5 : rtab .any (opsOf Tryd.f24 5) = excuse_quote.T5 := by kernel_rfl
theorem excuse_quote.bits5 : waitsOk excuse_quote.T5.2 excuse_quote.B5 = true := by kernel_rfl
set_option maxHeartbeats 8000000 in
set_option maxRecDepth 100000 in
theorem excuse_quote.calls (k : Nat) (a0 : ByteArray) (r1 : ByteArray) (r2 : Bool) (r3 : Int) (r4 : Int) (w : World) (h : excuse_quote.f k a0 = some (r1, r2, r3, r4)) :
  Calls Tryd.prog 24 #[.string a0] w fun e w' => e = .returned (.tuple #[.string r1, .agg #[.bool r2, .int .u64 r3, .int .u64 r4]]) ∧ Below w.heap.size w w' := by
 have hu28 := Tryd.underlying28
 have hu45 := Tryd.underlying45
 have hu37 := Tryd.underlying37
 have HB := Aside0.mk (Below.refl w.heap.size w)
 have H : ((excuse_isSix.f a0).bind fun t224 => (if t224 = true then ((ip6_Take.f k a0).bind fun bt225 => (if 0 ≤ (mn (wrap64 (40 + (bt225.2.2.2.2.2.2.2.2.2.2.1.size : Int))) 1232) then (if (mn (wrap64 (40 + (bt225.2.2.2.2.2.2.2.2.2.2.1.size : Int))) 1232) ≤ (a0.size : Int) then (some (a0.extract 0 ((mn (wrap64 (40 + (bt225.2.2.2.2.2.2.2.2.2.2.1.size : Int))) 1232) : Int).toNat, bt225.2.2.2.2.1, bt225.2.2.2.2.2.1, bt225.2.2.2.2.2.2.1)) else (none)) else (none))) else ((ip4_Take.f k a0).bind fun bt238 => (if 0 ≤ (wrap64 ((wrap64 (20 + (bt238.2.2.2.2.2.2.2.2.2.2.2.2.2.1.size : Int))) + (mn 8 (bt238.2.2.2.2.2.2.2.2.2.2.2.2.2.2.1.size : Int)))) then (if (wrap64 ((wrap64 (20 + (bt238.2.2.2.2.2.2.2.2.2.2.2.2.2.1.size : Int))) + (mn 8 (bt238.2.2.2.2.2.2.2.2.2.2.2.2.2.2.1.size : Int)))) ≤ (a0.size : Int) then (some (a0.extract 0 ((wrap64 ((wrap64 (20 + (bt238.2.2.2.2.2.2.2.2.2.2.2.2.2.1.size : Int))) + (mn 8 (bt238.2.2.2.2.2.2.2.2.2.2.2.2.2.2.1.size : Int)))) : Int).toNat, bt238.2.2.2.2.2.2.2.1, bt238.2.2.2.2.2.2.2.2.1, bt238.2.2.2.2.2.2.2.2.2.1)) else (none)) else (none))))) = some (r1, r2, r3, r4) := h
 clear h
 replace H := Option.bind_eq_some_iff.mp H
 obtain ⟨t224, A20, H⟩ := H
 have A2 := Aside0.mk A20
 clear A20
 by_cases c3 : t224 = true
 ·
  subst c3
  rw [if_pos rfl] at H
  replace H := Option.bind_eq_some_iff.mp H
  obtain ⟨⟨t225, t226, t227, t228, t229, t230, t231, t232, t233, t234, t235, t236⟩, A40, H⟩ := H
  replace H : (if 0 ≤ (mn (wrap64 (40 + (t235.size : Int))) 1232) then (if (mn (wrap64 (40 + (t235.size : Int))) 1232) ≤ (a0.size : Int) then (some (a0.extract 0 ((mn (wrap64 (40 + (t235.size : Int))) 1232) : Int).toNat, t229, t230, t231)) else (none)) else (none)) = some (r1, r2, r3, r4) := H
  have A4 := Aside0.mk A40
  clear A40
  obtain ⟨ji5, hji5⟩ : ∃ j_ : Int, (mn (wrap64 (40 + (t235.size : Int))) 1232) = j_ := ⟨_, rfl⟩
  replace H : (if 0 ≤ (ji5) then (if (ji5) ≤ (a0.size : Int) then (some (a0.extract 0 ((ji5) : Int).toNat, t229, t230, t231)) else (none)) else (none)) = some (r1, r2, r3, r4) := by first | (rw [hji5] at H; exact H) | (simp only [hji5] at H ⊢; exact H)
  (try rw [hji5] at A2)
  (try rw [hji5] at A4)
  (try (have hji5h : ji5 ≤ 1232 := by (rw [← hji5]; unfold mn; (repeat' split) <;> omega)))
  (try (have hji5g : ji5 ≤ 64 := by omega))
  have hji5_ : (if 1232 < (wrap64 (40 + (t235.size : Int))) then 1232 else (wrap64 (40 + (t235.size : Int)))) = ji5 := hji5
  by_cases c6 : 0 ≤ (ji5)
  ·
   rw [if_pos c6] at H
   have c6b0 := eq_true c6
   have c6b1 : decide (0 ≤ (ji5)) = true := decide_eq_true c6
   clear c6
   by_cases c7 : (ji5) ≤ (a0.size : Int)
   ·
    rw [if_pos c7] at H
    have c7b0 := eq_true c7
    have c7b1 : decide ((ji5) ≤ (a0.size : Int)) = true := decide_eq_true c7
    clear c7
    simp only [Option.some.injEq, Prod.mk.injEq] at H
    obtain ⟨rfl, rfl, rfl, rfl⟩ := H
    go_enter Tryd.func24, Tryd.ntmps24
    try go_wp2_with (first | ((with_reducible refine gate_dst (N := 3) rfl ?_); refine sh_E 3 28 #[.bool false, .int .u64 0, .int .u64 0] ?_; intro gb223 hg w8 hbox hb; have BK223 := Aside0.mk hbox; have GW223 := sh_G HB hg; have GE223 := GW223; replace HB := sh_S HB hb; clear hb hbox hg) | ((with_reducible refine gate_callee (f := 22) rfl ?_); refine sh_C 9 Tryd.func22 #[.string a0] ?_; (with_reducible refine (excuse_isSix.calls a0 true _ A2.out).mono ?_); rintro e w' ⟨rfl, ⟨nd, rfl⟩⟩; refine ⟨_, rfl, ?_⟩; (try (rw [drewN_self w8]; generalize hq_ : World.drewN w8 _ = w8; have n0_ : Aside0 (w8.heap[gb223]? = some (.cells #[.bool false, .int .u64 0, .int .u64 0] 28 (0, 0))) := ⟨by rw [← hq_]; exact (sh_K BK223)⟩; have n1_ : Aside0 (Below w.heap.size w w8) := ⟨by rw [← hq_]; exact (sh_B HB)⟩; clear BK223 HB hq_; have BK223 := n0_; have HB := n1_; clear n0_ n1_))) | ((with_reducible refine gate_callee (f := 18) rfl ?_); refine sh_C 12 Tryd.func18 #[.string a0] ?_; (with_reducible refine (ip6_Take.calls k a0 t225 t226 t227 t228 t229 t230 t231 t232 t233 t234 t235 t236 _ A4.out).mono ?_); rintro e w9 ⟨rfl, hb⟩; refine ⟨_, rfl, ?_⟩; replace BK223 := sh_L BK223 hb; replace HB := sh_S HB hb; (try clear hb); (try clear hb2); (try clear hk); (try clear hi)) | ((with_reducible refine gate_dst (N := 4) rfl ?_); refine sh_E 4 45 #[.int .i64 0, .int .i64 0, .int .i64 0, .int .i64 0, .bool false, .int .u64 0, .int .u64 0, .bool false, .int .u64 0, .int .u64 0, .string (⟨#[]⟩ : ByteArray)] ?_; intro gb237 hg w10 hbox hb; have BK237 := Aside0.mk hbox; have GW237 := sh_G HB hg; have GE237 := GW237; replace HB := sh_S HB hb; have NB223_237 := sh_N BK223 hg; have NB237_223 := sh_M BK223 hg; replace BK223 := sh_L BK223 hb; clear hb hbox hg; have hnb11 := NB237_223.out; have hnc11 := NB223_237.out; obtain ⟨hcz12_0, hcz12_1, hcz12_2, hcz12_3, hcz12_4, hcz12_5, hcz12_6, hcz12_7, hcz12_8, hcz12_9, hcz12_10⟩ := MBlk.c11 BK237.out; obtain ⟨hfz12_0, hfz12_1, hfz12_2, hfz12_3, hfz12_4, hfz12_5, hfz12_6, hfz12_7, hfz12_8, hfz12_9, hfz12_10⟩ := MBlk.f11 BK237.out))
    have n0_ : Aside0 ((((((((((((w10.setCell ⟨gb237, 0, none⟩ (.int .i64 t225)).setCell ⟨gb237, 1, none⟩ (.int .i64 t226)).setCell ⟨gb237, 2, none⟩ (.int .i64 t227)).setCell ⟨gb237, 3, none⟩ (.int .i64 t228)).setCell ⟨gb237, 4, none⟩ (.bool t229)).setCell ⟨gb237, 5, none⟩ (.int .u64 t230)).setCell ⟨gb237, 6, none⟩ (.int .u64 t231)).setCell ⟨gb237, 7, none⟩ (.bool t232)).setCell ⟨gb237, 8, none⟩ (.int .u64 t233)).setCell ⟨gb237, 9, none⟩ (.int .u64 t234)).setCell ⟨gb237, 10, none⟩ (.string t235)).heap[gb223]? = some (.cells #[.bool false, .int .u64 0, .int .u64 0] 28 (0, 0))) := ⟨by (with_reducible repeat (first | refine blk_drewN ?_ _ | refine blk_drew ?_ | refine blk_alloc ?_ _)); refine blk_far ?_ NB223_237.out _; (with_reducible repeat (first | refine blk_drewN ?_ _ | refine blk_drew ?_ | refine blk_alloc ?_ _)); refine blk_far ?_ NB223_237.out _; (with_reducible repeat (first | refine blk_drewN ?_ _ | refine blk_drew ?_ | refine blk_alloc ?_ _)); refine blk_far ?_ NB223_237.out _; (with_reducible repeat (first | refine blk_drewN ?_ _ | refine blk_drew ?_ | refine blk_alloc ?_ _)); refine blk_far ?_ NB223_237.out _; (with_reducible repeat (first | refine blk_drewN ?_ _ | refine blk_drew ?_ | refine blk_alloc ?_ _)); refine blk_far ?_ NB223_237.out _; (with_reducible repeat (first | refine blk_drewN ?_ _ | refine blk_drew ?_ | refine blk_alloc ?_ _)); refine blk_far ?_ NB223_237.out _; (with_reducible repeat (first | refine blk_drewN ?_ _ | refine blk_drew ?_ | refine blk_alloc ?_ _)); refine blk_far ?_ NB223_237.out _; (with_reducible repeat (first | refine blk_drewN ?_ _ | refine blk_drew ?_ | refine blk_alloc ?_ _)); refine blk_far ?_ NB223_237.out _; (with_reducible repeat (first | refine blk_drewN ?_ _ | refine blk_drew ?_ | refine blk_alloc ?_ _)); refine blk_far ?_ NB223_237.out _; (with_reducible repeat (first | refine blk_drewN ?_ _ | refine blk_drew ?_ | refine blk_alloc ?_ _)); refine blk_far ?_ NB223_237.out _; (with_reducible repeat (first | refine blk_drewN ?_ _ | refine blk_drew ?_ | refine blk_alloc ?_ _)); refine blk_far ?_ NB223_237.out _; (with_reducible repeat (first | refine blk_drewN ?_ _ | refine blk_drew ?_ | refine blk_alloc ?_ _)); exact BK223.out⟩
    have n1_ : Aside0 ((((((((((((w10.setCell ⟨gb237, 0, none⟩ (.int .i64 t225)).setCell ⟨gb237, 1, none⟩ (.int .i64 t226)).setCell ⟨gb237, 2, none⟩ (.int .i64 t227)).setCell ⟨gb237, 3, none⟩ (.int .i64 t228)).setCell ⟨gb237, 4, none⟩ (.bool t229)).setCell ⟨gb237, 5, none⟩ (.int .u64 t230)).setCell ⟨gb237, 6, none⟩ (.int .u64 t231)).setCell ⟨gb237, 7, none⟩ (.bool t232)).setCell ⟨gb237, 8, none⟩ (.int .u64 t233)).setCell ⟨gb237, 9, none⟩ (.int .u64 t234)).setCell ⟨gb237, 10, none⟩ (.string t235)).heap[gb237]? = some (.cells #[.int .i64 t225, .int .i64 t226, .int .i64 t227, .int .i64 t228, .bool t229, .int .u64 t230, .int .u64 t231, .bool t232, .int .u64 t233, .int .u64 t234, .string t235] 45 (0, 0))) := ⟨by (with_reducible repeat (first | refine blk_drewN ?_ _ | refine blk_drew ?_ | refine blk_alloc ?_ _)); refine blk_put (cs := #[.int .i64 t225, .int .i64 t226, .int .i64 t227, .int .i64 t228, .bool t229, .int .u64 t230, .int .u64 t231, .bool t232, .int .u64 t233, .int .u64 t234, .string (⟨#[]⟩ : ByteArray)]) ?_ 10 _ rfl; (with_reducible repeat (first | refine blk_drewN ?_ _ | refine blk_drew ?_ | refine blk_alloc ?_ _)); refine blk_put (cs := #[.int .i64 t225, .int .i64 t226, .int .i64 t227, .int .i64 t228, .bool t229, .int .u64 t230, .int .u64 t231, .bool t232, .int .u64 t233, .int .u64 0, .string (⟨#[]⟩ : ByteArray)]) ?_ 9 _ rfl; (with_reducible repeat (first | refine blk_drewN ?_ _ | refine blk_drew ?_ | refine blk_alloc ?_ _)); refine blk_put (cs := #[.int .i64 t225, .int .i64 t226, .int .i64 t227, .int .i64 t228, .bool t229, .int .u64 t230, .int .u64 t231, .bool t232, .int .u64 0, .int .u64 0, .string (⟨#[]⟩ : ByteArray)]) ?_ 8 _ rfl; (with_reducible repeat (first | refine blk_drewN ?_ _ | refine blk_drew ?_ | refine blk_alloc ?_ _)); refine blk_put (cs := #[.int .i64 t225, .int .i64 t226, .int .i64 t227, .int .i64 t228, .bool t229, .int .u64 t230, .int .u64 t231, .bool false, .int .u64 0, .int .u64 0, .string (⟨#[]⟩ : ByteArray)]) ?_ 7 _ rfl; (with_reducible repeat (first | refine blk_drewN ?_ _ | refine blk_drew ?_ | refine blk_alloc ?_ _)); refine blk_put (cs := #[.int .i64 t225, .int .i64 t226, .int .i64 t227, .int .i64 t228, .bool t229, .int .u64 t230, .int .u64 0, .bool false, .int .u64 0, .int .u64 0, .string (⟨#[]⟩ : ByteArray)]) ?_ 6 _ rfl; (with_reducible repeat (first | refine blk_drewN ?_ _ | refine blk_drew ?_ | refine blk_alloc ?_ _)); refine blk_put (cs := #[.int .i64 t225, .int .i64 t226, .int .i64 t227, .int .i64 t228, .bool t229, .int .u64 0, .int .u64 0, .bool false, .int .u64 0, .int .u64 0, .string (⟨#[]⟩ : ByteArray)]) ?_ 5 _ rfl; (with_reducible repeat (first | refine blk_drewN ?_ _ | refine blk_drew ?_ | refine blk_alloc ?_ _)); refine blk_put (cs := #[.int .i64 t225, .int .i64 t226, .int .i64 t227, .int .i64 t228, .bool false, .int .u64 0, .int .u64 0, .bool false, .int .u64 0, .int .u64 0, .string (⟨#[]⟩ : ByteArray)]) ?_ 4 _ rfl; (with_reducible repeat (first | refine blk_drewN ?_ _ | refine blk_drew ?_ | refine blk_alloc ?_ _)); refine blk_put (cs := #[.int .i64 t225, .int .i64 t226, .int .i64 t227, .int .i64 0, .bool false, .int .u64 0, .int .u64 0, .bool false, .int .u64 0, .int .u64 0, .string (⟨#[]⟩ : ByteArray)]) ?_ 3 _ rfl; (with_reducible repeat (first | refine blk_drewN ?_ _ | refine blk_drew ?_ | refine blk_alloc ?_ _)); refine blk_put (cs := #[.int .i64 t225, .int .i64 t226, .int .i64 0, .int .i64 0, .bool false, .int .u64 0, .int .u64 0, .bool false, .int .u64 0, .int .u64 0, .string (⟨#[]⟩ : ByteArray)]) ?_ 2 _ rfl; (with_reducible repeat (first | refine blk_drewN ?_ _ | refine blk_drew ?_ | refine blk_alloc ?_ _)); refine blk_put (cs := #[.int .i64 t225, .int .i64 0, .int .i64 0, .int .i64 0, .bool false, .int .u64 0, .int .u64 0, .bool false, .int .u64 0, .int .u64 0, .string (⟨#[]⟩ : ByteArray)]) ?_ 1 _ rfl; (with_reducible repeat (first | refine blk_drewN ?_ _ | refine blk_drew ?_ | refine blk_alloc ?_ _)); refine blk_put (cs := #[.int .i64 0, .int .i64 0, .int .i64 0, .int .i64 0, .bool false, .int .u64 0, .int .u64 0, .bool false, .int .u64 0, .int .u64 0, .string (⟨#[]⟩ : ByteArray)]) ?_ 0 _ rfl; (with_reducible repeat (first | refine blk_drewN ?_ _ | refine blk_drew ?_ | refine blk_alloc ?_ _)); exact BK237.out⟩
    have n2_ : Aside0 (Below w.heap.size w (((((((((((w10.setCell ⟨gb237, 0, none⟩ (.int .i64 t225)).setCell ⟨gb237, 1, none⟩ (.int .i64 t226)).setCell ⟨gb237, 2, none⟩ (.int .i64 t227)).setCell ⟨gb237, 3, none⟩ (.int .i64 t228)).setCell ⟨gb237, 4, none⟩ (.bool t229)).setCell ⟨gb237, 5, none⟩ (.int .u64 t230)).setCell ⟨gb237, 6, none⟩ (.int .u64 t231)).setCell ⟨gb237, 7, none⟩ (.bool t232)).setCell ⟨gb237, 8, none⟩ (.int .u64 t233)).setCell ⟨gb237, 9, none⟩ (.int .u64 t234)).setCell ⟨gb237, 10, none⟩ (.string t235))) := ⟨by repeat (first | (with_reducible first | exact HB.out | apply below_alloc | apply pw_below_drewN | apply below_drew1 | refine below_set ?_ GE223.out | refine below_set ?_ GE237.out) | exact HB.out)⟩
    (try clear BK223)
    (try clear BK237)
    (try clear HB)
    generalize (((((((((((w10.setCell ⟨gb237, 0, none⟩ (.int .i64 t225)).setCell ⟨gb237, 1, none⟩ (.int .i64 t226)).setCell ⟨gb237, 2, none⟩ (.int .i64 t227)).setCell ⟨gb237, 3, none⟩ (.int .i64 t228)).setCell ⟨gb237, 4, none⟩ (.bool t229)).setCell ⟨gb237, 5, none⟩ (.int .u64 t230)).setCell ⟨gb237, 6, none⟩ (.int .u64 t231)).setCell ⟨gb237, 7, none⟩ (.bool t232)).setCell ⟨gb237, 8, none⟩ (.int .u64 t233)).setCell ⟨gb237, 9, none⟩ (.int .u64 t234)).setCell ⟨gb237, 10, none⟩ (.string t235)) = w13 at n0_ n1_ n2_ ⊢
    have BK223 := n0_
    have BK237 := n1_
    have HB := n2_
    clear n0_ n1_ n2_
    have n0_ := Aside0.mk (blk_drew BK223.out)
    have n1_ := Aside0.mk (blk_drew BK237.out)
    have n2_ := Aside0.mk (below_drew1 HB.out)
    clear BK223 BK237 HB
    have BK223 := n0_
    have BK237 := n1_
    have HB := n2_
    clear n0_ n1_ n2_
    refine start_ (n := 11) (S := fun w' => w'.cell? ⟨gb237, 0, none⟩ = some (.int .i64 t225) ∧ w'.cell? ⟨gb237, 1, none⟩ = some (.int .i64 t226) ∧ w'.cell? ⟨gb237, 2, none⟩ = some (.int .i64 t227) ∧ w'.cell? ⟨gb237, 3, none⟩ = some (.int .i64 t228) ∧ w'.cell? ⟨gb237, 4, none⟩ = some (.bool t229) ∧ w'.cell? ⟨gb237, 5, none⟩ = some (.int .u64 t230) ∧ w'.cell? ⟨gb237, 6, none⟩ = some (.int .u64 t231) ∧ w'.cell? ⟨gb237, 7, none⟩ = some (.bool t232) ∧ w'.cell? ⟨gb237, 8, none⟩ = some (.int .u64 t233) ∧ w'.cell? ⟨gb237, 9, none⟩ = some (.int .u64 t234) ∧ w'.cell? ⟨gb237, 10, none⟩ = some (.string t235)) (ds := []) #[false, false, false, false, false, false, false, false, false, false, false] (by kernel_rfl) rfl rfl ⟨(blk_cell BK237.out 0).trans rfl, (blk_cell BK237.out 1).trans rfl, (blk_cell BK237.out 2).trans rfl, (blk_cell BK237.out 3).trans rfl, (blk_cell BK237.out 4).trans rfl, (blk_cell BK237.out 5).trans rfl, (blk_cell BK237.out 6).trans rfl, (blk_cell BK237.out 7).trans rfl, (blk_cell BK237.out 8).trans rfl, (blk_cell BK237.out 9).trans rfl, (blk_cell BK237.out 10).trans rfl⟩ (fun hHeld => ?_); refine with_tabW excuse_quote.tab3 excuse_quote.bits3 (fun HT_ HW_ => ?_)
    generalize w13.drew = w14 at BK223 BK237 HB hHeld ⊢
    refine pure_ (i := 0) (N := some 15) (v := ?_) (a' := ?_) #[true, false, false, false, false, false, false, false, false, false, false] rfl rfl (any_of HT_.out (by kernel_rfl)) (fun _ _ _ h => h) (Or.inl ⟨by rfl, ?_⟩) ?_ ?_
    rotate_left
    ·
     intro w'
     go_simp
     with_reducible rfl
    rotate_left
    ·
     simp only [Act.put, List.setIfInBounds_toArray, List.set_cons_zero, List.set_cons_succ, i64_w, i32_w]
     rfl
    refine pure_ (i := 1) (N := some 16) (v := ?_) (a' := ?_) #[true, true, false, false, false, false, false, false, false, false, false] rfl rfl (any_of HT_.out (by kernel_rfl)) (fun _ _ _ h => h) (Or.inl ⟨by rfl, ?_⟩) ?_ ?_
    rotate_left
    ·
     intro w'
     go_simp
     with_reducible rfl
    rotate_left
    ·
     simp only [Act.put, List.setIfInBounds_toArray, List.set_cons_zero, List.set_cons_succ, i64_w, i32_w]
     rfl
    refine pure_ (i := 7) (N := some 22) (v := ?_) (a' := ?_) #[true, true, false, false, false, false, false, true, false, false, false] rfl rfl (any_of HT_.out (by kernel_rfl)) (fun _ _ _ h => h) (Or.inl ⟨by rfl, ?_⟩) ?_ ?_
    rotate_left
    ·
     intro w'
     go_simp
     with_reducible rfl
    rotate_left
    ·
     simp only [Act.put, List.setIfInBounds_toArray, List.set_cons_zero, List.set_cons_succ, i64_w, i32_w]
     rfl
    refine take_ (i := 2) (N := some 17) (v := ?_) (a' := ?_) #[true, true, true, false, false, false, false, true, false, false, false] rfl rfl (take_ofW HT_.out HW_.out (by kernel_rfl)) (fun _ _ _ h => h) (Or.inl ⟨by rfl, ?_⟩) hHeld ?_ ?_
    rotate_left
    ·
     rintro w' ⟨s0, s1, s2, s3, s4, s5, s6, s7, s8, s9, s10⟩
     go_simp
     with_reducible rfl
    rotate_left
    ·
     simp only [Act.put, List.setIfInBounds_toArray, List.set_cons_zero, List.set_cons_succ, i64_w, i32_w]
     rfl
    refine pure_ (i := 3) (N := some 18) (v := ?_) (a' := ?_) #[true, true, true, true, false, false, false, true, false, false, false] rfl rfl (any_of HT_.out (by kernel_rfl)) (fun _ _ _ h => h) (Or.inl ⟨by rfl, ?_⟩) ?_ ?_
    rotate_left
    ·
     intro w'
     go_simp
     with_reducible rfl
    rotate_left
    ·
     simp only [Act.put, List.setIfInBounds_toArray, List.set_cons_zero, List.set_cons_succ, i64_w, i32_w]
     rfl
    refine pure_ (i := 4) (N := some 19) (v := ?_) (a' := ?_) #[true, true, true, true, true, false, false, true, false, false, false] rfl rfl (any_of HT_.out (by kernel_rfl)) (fun _ _ _ h => h) (Or.inl ⟨by rfl, ?_⟩) ?_ ?_
    rotate_left
    ·
     intro w'
     go_simp
     with_reducible rfl
    rotate_left
    ·
     simp only [Act.put, List.setIfInBounds_toArray, List.set_cons_zero, List.set_cons_succ, i64_w, i32_w]
     rfl
    refine pure_ (i := 5) (N := some 20) (v := ?_) (a' := ?_) #[true, true, true, true, true, true, false, true, false, false, false] rfl rfl (any_of HT_.out (by kernel_rfl)) (fun _ _ _ h => h) (Or.inl ⟨by rfl, ?_⟩) ?_ ?_
    rotate_left
    ·
     intro w'
     go_simp
     with_reducible rfl
    rotate_left
    ·
     simp only [Act.put, List.setIfInBounds_toArray, List.set_cons_zero, List.set_cons_succ, i64_w, i32_w]
     rfl
    refine pure_ (i := 6) (N := some 21) (v := ?_) (a' := ?_) #[true, true, true, true, true, true, true, true, false, false, false] rfl rfl (any_of HT_.out (by kernel_rfl)) (fun _ _ _ h => h) (Or.inl ⟨by rfl, ?_⟩) ?_ ?_
    rotate_left
    ·
     intro w'
     go_simp
     with_reducible rfl
    rotate_left
    ·
     simp only [Act.put, List.setIfInBounds_toArray, List.set_cons_zero, List.set_cons_succ, i64_w, i32_w]
     rfl
    refine pure_ (i := 9) (N := some 2) (v := ?_) (a' := ?_) #[true, true, true, true, true, true, true, true, false, true, false] rfl rfl (any_of HT_.out (by kernel_rfl)) (fun _ _ _ h => h) (Or.inl ⟨by rfl, ?_⟩) ?_ ?_
    rotate_left
    ·
     intro w'
     go_simp
     with_reducible rfl
    rotate_left
    ·
     simp only [Act.put, List.setIfInBounds_toArray, List.set_cons_zero, List.set_cons_succ, i64_w, i32_w]
     rfl
    refine take_ (i := 8) (N := some 23) (v := ?_) (a' := ?_) #[true, true, true, true, true, true, true, true, true, true, false] rfl rfl (take_ofW HT_.out HW_.out (by kernel_rfl)) (fun _ _ _ h => h) (Or.inl ⟨by rfl, ?_⟩) hHeld ?_ ?_
    rotate_left
    ·
     rintro w' ⟨s0, s1, s2, s3, s4, s5, s6, s7, s8, s9, s10⟩
     go_simp
     with_reducible rfl
    rotate_left
    ·
     simp only [Act.put, List.setIfInBounds_toArray, List.set_cons_zero, List.set_cons_succ, i64_w, i32_w]
     rfl
    refine one_ (i := 10) (N := none) #[true, true, true, true, true, true, true, true, true, true, true] rfl rfl (one_of HT_.out (by kernel_rfl)) (by decide) (fun K hK => ?_)
    have hs15 : w14.cell? ⟨gb223, 0, none⟩ = some (.bool false) := (blk_cell BK223.out 0).trans rfl
    have hfs15 := blk_frozen BK223.out 0
    have hns15_1 := NB237_223.out
    have hms15_1 := NB223_237.out
    have hs16 : w14.cell? ⟨gb223, 1, none⟩ = some (.int .u64 0) := (blk_cell BK223.out 1).trans rfl
    have hfs16 := blk_frozen BK223.out 1
    have hns16_1 := NB237_223.out
    have hms16_1 := NB223_237.out
    have hs17 : w14.cell? ⟨gb223, 2, none⟩ = some (.int .u64 0) := (blk_cell BK223.out 2).trans rfl
    have hfs17 := blk_frozen BK223.out 2
    have hns17_1 := NB237_223.out
    have hms17_1 := NB223_237.out
    refine skip_ (w1 := ?_) (by rfl) rfl ?_ ?_
    rotate_left
    ·
     go_simp
     rfl
    refine hK.out _ _ ⟨((cell_far (p := ⟨gb223, _, none⟩) NB237_223.out _).trans (((cell_far (p := ⟨gb223, _, none⟩) NB237_223.out _).trans (((cell_far (p := ⟨gb223, _, none⟩) NB237_223.out _).trans (hHeld.1)))))), ((cell_far (p := ⟨gb223, _, none⟩) NB237_223.out _).trans (((cell_far (p := ⟨gb223, _, none⟩) NB237_223.out _).trans (((cell_far (p := ⟨gb223, _, none⟩) NB237_223.out _).trans (hHeld.2.1)))))), ((cell_far (p := ⟨gb223, _, none⟩) NB237_223.out _).trans (((cell_far (p := ⟨gb223, _, none⟩) NB237_223.out _).trans (((cell_far (p := ⟨gb223, _, none⟩) NB237_223.out _).trans (hHeld.2.2.1)))))), ((cell_far (p := ⟨gb223, _, none⟩) NB237_223.out _).trans (((cell_far (p := ⟨gb223, _, none⟩) NB237_223.out _).trans (((cell_far (p := ⟨gb223, _, none⟩) NB237_223.out _).trans (hHeld.2.2.2.1)))))), ((cell_far (p := ⟨gb223, _, none⟩) NB237_223.out _).trans (((cell_far (p := ⟨gb223, _, none⟩) NB237_223.out _).trans (((cell_far (p := ⟨gb223, _, none⟩) NB237_223.out _).trans (hHeld.2.2.2.2.1)))))), ((cell_far (p := ⟨gb223, _, none⟩) NB237_223.out _).trans (((cell_far (p := ⟨gb223, _, none⟩) NB237_223.out _).trans (((cell_far (p := ⟨gb223, _, none⟩) NB237_223.out _).trans (hHeld.2.2.2.2.2.1)))))), ((cell_far (p := ⟨gb223, _, none⟩) NB237_223.out _).trans (((cell_far (p := ⟨gb223, _, none⟩) NB237_223.out _).trans (((cell_far (p := ⟨gb223, _, none⟩) NB237_223.out _).trans (hHeld.2.2.2.2.2.2.1)))))), ((cell_far (p := ⟨gb223, _, none⟩) NB237_223.out _).trans (((cell_far (p := ⟨gb223, _, none⟩) NB237_223.out _).trans (((cell_far (p := ⟨gb223, _, none⟩) NB237_223.out _).trans (hHeld.2.2.2.2.2.2.2.1)))))), ((cell_far (p := ⟨gb223, _, none⟩) NB237_223.out _).trans (((cell_far (p := ⟨gb223, _, none⟩) NB237_223.out _).trans (((cell_far (p := ⟨gb223, _, none⟩) NB237_223.out _).trans (hHeld.2.2.2.2.2.2.2.2.1)))))), ((cell_far (p := ⟨gb223, _, none⟩) NB237_223.out _).trans (((cell_far (p := ⟨gb223, _, none⟩) NB237_223.out _).trans (((cell_far (p := ⟨gb223, _, none⟩) NB237_223.out _).trans (hHeld.2.2.2.2.2.2.2.2.2.1)))))), ((cell_far (p := ⟨gb223, _, none⟩) NB237_223.out _).trans (((cell_far (p := ⟨gb223, _, none⟩) NB237_223.out _).trans (((cell_far (p := ⟨gb223, _, none⟩) NB237_223.out _).trans (hHeld.2.2.2.2.2.2.2.2.2.2))))))⟩ (fun hHeld => ?_)
    clear hK K
    refine done_ (done_of HT_.out (by kernel_rfl)) ?_
    try go_wp2
    refine bodyPost_ret (results_tc rfl _ _ gb223 28 #[.bool t229, .int .u64 t230, .int .u64 t231] (0, 0) _ rfl (by (with_reducible repeat (first | refine blk_drewN ?_ _ | refine blk_drew ?_ | refine blk_alloc ?_ _)); refine blk_put (cs := #[.bool t229, .int .u64 t230, .int .u64 0]) ?_ 2 _ rfl; (with_reducible repeat (first | refine blk_drewN ?_ _ | refine blk_drew ?_ | refine blk_alloc ?_ _)); refine blk_put (cs := #[.bool t229, .int .u64 0, .int .u64 0]) ?_ 1 _ rfl; (with_reducible repeat (first | refine blk_drewN ?_ _ | refine blk_drew ?_ | refine blk_alloc ?_ _)); refine blk_put (cs := #[.bool false, .int .u64 0, .int .u64 0]) ?_ 0 _ rfl; (with_reducible repeat (first | refine blk_drewN ?_ _ | refine blk_drew ?_ | refine blk_alloc ?_ _)); exact BK223.out) Tryd.underlying28 rfl (by kernel_rfl)) rfl ?_
    exact ⟨by first | rfl | (simp [errW_none, errW_some] <;> rfl) | (simp only [← hji5]; first | rfl | (simp [errW_none, errW_some] <;> rfl)) | (simp [*, errW_none, errW_some] <;> rfl), by repeat (first | (with_reducible first | exact HB.out | apply below_alloc | apply pw_below_drewN | apply below_drew1 | refine below_set ?_ GE223.out | refine below_set ?_ GE237.out) | exact HB.out)⟩
   ·
    rw [if_neg c7] at H
    exact absurd H (by simp)
  ·
   rw [if_neg c6] at H
   exact absurd H (by simp)
 ·
  replace c3 := Bool.eq_false_iff.mpr c3
  subst c3
  rw [if_neg (show ¬ (false = true) by decide)] at H
  replace H := Option.bind_eq_some_iff.mp H
  obtain ⟨⟨t238, t239, t240, t241, t242, t243, t244, t245, t246, t247, t248, t249, t250, t251, t252, t253⟩, A180, H⟩ := H
  replace H : (if 0 ≤ (wrap64 ((wrap64 (20 + (t251.size : Int))) + (mn 8 (t252.size : Int)))) then (if (wrap64 ((wrap64 (20 + (t251.size : Int))) + (mn 8 (t252.size : Int)))) ≤ (a0.size : Int) then (some (a0.extract 0 ((wrap64 ((wrap64 (20 + (t251.size : Int))) + (mn 8 (t252.size : Int)))) : Int).toNat, t245, t246, t247)) else (none)) else (none)) = some (r1, r2, r3, r4) := H
  have A18 := Aside0.mk A180
  clear A180
  obtain ⟨ji19, hji19⟩ : ∃ j_ : Int, (mn 8 (t252.size : Int)) = j_ := ⟨_, rfl⟩
  replace H : (if 0 ≤ (wrap64 ((wrap64 (20 + (t251.size : Int))) + (ji19))) then (if (wrap64 ((wrap64 (20 + (t251.size : Int))) + (ji19))) ≤ (a0.size : Int) then (some (a0.extract 0 ((wrap64 ((wrap64 (20 + (t251.size : Int))) + (ji19))) : Int).toNat, t245, t246, t247)) else (none)) else (none)) = some (r1, r2, r3, r4) := by first | (rw [hji19] at H; exact H) | (simp only [hji19] at H ⊢; exact H)
  (try rw [hji19] at A2)
  (try rw [hji19] at A18)
  (try (have hji19h : ji19 ≤ 8 := by (rw [← hji19]; unfold mn; (repeat' split) <;> omega)))
  (try (have hji19g : ji19 ≤ 64 := by omega))
  (try (have hji19l : 0 ≤ ji19 := by (rw [← hji19]; unfold mn; (repeat' split) <;> omega)))
  (try (have hji19m : 0 ≤ ji19 := by omega))
  have hji19_ : (if (t252.size : Int) < 8 then (t252.size : Int) else 8) = ji19 := hji19
  obtain ⟨ji20, hji20⟩ : ∃ j_ : Int, (wrap64 ((wrap64 (20 + (t251.size : Int))) + (ji19))) = j_ := ⟨_, rfl⟩
  replace H : (if 0 ≤ (ji20) then (if (ji20) ≤ (a0.size : Int) then (some (a0.extract 0 ((ji20) : Int).toNat, t245, t246, t247)) else (none)) else (none)) = some (r1, r2, r3, r4) := by first | (rw [hji20] at H; exact H) | (simp only [hji20] at H ⊢; exact H)
  (try rw [hji20] at A2)
  (try rw [hji20] at A18)
  have hji20w : (IntKind.i64.wrap ((wrap64 (20 + (t251.size : Int))) + (ji19))) = ji20 := (i64_w _).trans hji20
  by_cases c21 : 0 ≤ (ji20)
  ·
   rw [if_pos c21] at H
   have c21b0 := eq_true c21
   have c21b1 : decide (0 ≤ (ji20)) = true := decide_eq_true c21
   clear c21
   by_cases c22 : (ji20) ≤ (a0.size : Int)
   ·
    rw [if_pos c22] at H
    have c22b0 := eq_true c22
    have c22b1 : decide ((ji20) ≤ (a0.size : Int)) = true := decide_eq_true c22
    clear c22
    simp only [Option.some.injEq, Prod.mk.injEq] at H
    obtain ⟨rfl, rfl, rfl, rfl⟩ := H
    go_enter Tryd.func24, Tryd.ntmps24
    try go_wp2_with (first | ((with_reducible refine gate_dst (N := 3) rfl ?_); refine sh_E 3 28 #[.bool false, .int .u64 0, .int .u64 0] ?_; intro gb223 hg w23 hbox hb; have BK223 := Aside0.mk hbox; have GW223 := sh_G HB hg; have GE223 := GW223; replace HB := sh_S HB hb; clear hb hbox hg) | ((with_reducible refine gate_callee (f := 22) rfl ?_); refine sh_C 9 Tryd.func22 #[.string a0] ?_; (with_reducible refine (excuse_isSix.calls a0 false _ A2.out).mono ?_); rintro e w' ⟨rfl, ⟨nd, rfl⟩⟩; refine ⟨_, rfl, ?_⟩; (try (rw [drewN_self w23]; generalize hq_ : World.drewN w23 _ = w23; have n0_ : Aside0 (w23.heap[gb223]? = some (.cells #[.bool false, .int .u64 0, .int .u64 0] 28 (0, 0))) := ⟨by rw [← hq_]; exact (sh_K BK223)⟩; have n1_ : Aside0 (Below w.heap.size w w23) := ⟨by rw [← hq_]; exact (sh_B HB)⟩; clear BK223 HB hq_; have BK223 := n0_; have HB := n1_; clear n0_ n1_))) | ((with_reducible refine gate_callee (f := 20) rfl ?_); refine sh_C 26 Tryd.func20 #[.string a0] ?_; (with_reducible refine (ip4_Take.calls k a0 t238 t239 t240 t241 t242 t243 t244 t245 t246 t247 t248 t249 t250 t251 t252 t253 _ A18.out).mono ?_); rintro e w24 ⟨rfl, hb⟩; refine ⟨_, rfl, ?_⟩; replace BK223 := sh_L BK223 hb; replace HB := sh_S HB hb; (try clear hb); (try clear hb2); (try clear hk); (try clear hi)) | ((with_reducible refine gate_dst (N := 6) rfl ?_); refine sh_E 6 37 #[.int .i64 0, .int .i64 0, .bool false, .bool false, .int .i64 0, .int .i64 0, .int .i64 0, .bool false, .int .u64 0, .int .u64 0, .bool false, .int .u64 0, .int .u64 0, .string (⟨#[]⟩ : ByteArray), .string (⟨#[]⟩ : ByteArray)] ?_; intro gb254 hg w25 hbox hb; have BK254 := Aside0.mk hbox; have GW254 := sh_G HB hg; have GE254 := GW254; replace HB := sh_S HB hb; have NB223_254 := sh_N BK223 hg; have NB254_223 := sh_M BK223 hg; replace BK223 := sh_L BK223 hb; clear hb hbox hg; have hnb26 := NB254_223.out; have hnc26 := NB223_254.out; obtain ⟨hcz27_0, hcz27_1, hcz27_2, hcz27_3, hcz27_4, hcz27_5, hcz27_6, hcz27_7, hcz27_8, hcz27_9, hcz27_10, hcz27_11, hcz27_12, hcz27_13, hcz27_14⟩ := MBlk.c15 BK254.out; obtain ⟨hfz27_0, hfz27_1, hfz27_2, hfz27_3, hfz27_4, hfz27_5, hfz27_6, hfz27_7, hfz27_8, hfz27_9, hfz27_10, hfz27_11, hfz27_12, hfz27_13, hfz27_14⟩ := MBlk.f15 BK254.out))
    have n0_ : Aside0 ((((((((((((((((w25.setCell ⟨gb254, 0, none⟩ (.int .i64 t238)).setCell ⟨gb254, 1, none⟩ (.int .i64 t239)).setCell ⟨gb254, 2, none⟩ (.bool t240)).setCell ⟨gb254, 3, none⟩ (.bool t241)).setCell ⟨gb254, 4, none⟩ (.int .i64 t242)).setCell ⟨gb254, 5, none⟩ (.int .i64 t243)).setCell ⟨gb254, 6, none⟩ (.int .i64 t244)).setCell ⟨gb254, 7, none⟩ (.bool t245)).setCell ⟨gb254, 8, none⟩ (.int .u64 t246)).setCell ⟨gb254, 9, none⟩ (.int .u64 t247)).setCell ⟨gb254, 10, none⟩ (.bool t248)).setCell ⟨gb254, 11, none⟩ (.int .u64 t249)).setCell ⟨gb254, 12, none⟩ (.int .u64 t250)).setCell ⟨gb254, 13, none⟩ (.string t251)).setCell ⟨gb254, 14, none⟩ (.string t252)).heap[gb223]? = some (.cells #[.bool false, .int .u64 0, .int .u64 0] 28 (0, 0))) := ⟨by (with_reducible repeat (first | refine blk_drewN ?_ _ | refine blk_drew ?_ | refine blk_alloc ?_ _)); refine blk_far ?_ NB223_254.out _; (with_reducible repeat (first | refine blk_drewN ?_ _ | refine blk_drew ?_ | refine blk_alloc ?_ _)); refine blk_far ?_ NB223_254.out _; (with_reducible repeat (first | refine blk_drewN ?_ _ | refine blk_drew ?_ | refine blk_alloc ?_ _)); refine blk_far ?_ NB223_254.out _; (with_reducible repeat (first | refine blk_drewN ?_ _ | refine blk_drew ?_ | refine blk_alloc ?_ _)); refine blk_far ?_ NB223_254.out _; (with_reducible repeat (first | refine blk_drewN ?_ _ | refine blk_drew ?_ | refine blk_alloc ?_ _)); refine blk_far ?_ NB223_254.out _; (with_reducible repeat (first | refine blk_drewN ?_ _ | refine blk_drew ?_ | refine blk_alloc ?_ _)); refine blk_far ?_ NB223_254.out _; (with_reducible repeat (first | refine blk_drewN ?_ _ | refine blk_drew ?_ | refine blk_alloc ?_ _)); refine blk_far ?_ NB223_254.out _; (with_reducible repeat (first | refine blk_drewN ?_ _ | refine blk_drew ?_ | refine blk_alloc ?_ _)); refine blk_far ?_ NB223_254.out _; (with_reducible repeat (first | refine blk_drewN ?_ _ | refine blk_drew ?_ | refine blk_alloc ?_ _)); refine blk_far ?_ NB223_254.out _; (with_reducible repeat (first | refine blk_drewN ?_ _ | refine blk_drew ?_ | refine blk_alloc ?_ _)); refine blk_far ?_ NB223_254.out _; (with_reducible repeat (first | refine blk_drewN ?_ _ | refine blk_drew ?_ | refine blk_alloc ?_ _)); refine blk_far ?_ NB223_254.out _; (with_reducible repeat (first | refine blk_drewN ?_ _ | refine blk_drew ?_ | refine blk_alloc ?_ _)); refine blk_far ?_ NB223_254.out _; (with_reducible repeat (first | refine blk_drewN ?_ _ | refine blk_drew ?_ | refine blk_alloc ?_ _)); refine blk_far ?_ NB223_254.out _; (with_reducible repeat (first | refine blk_drewN ?_ _ | refine blk_drew ?_ | refine blk_alloc ?_ _)); refine blk_far ?_ NB223_254.out _; (with_reducible repeat (first | refine blk_drewN ?_ _ | refine blk_drew ?_ | refine blk_alloc ?_ _)); refine blk_far ?_ NB223_254.out _; (with_reducible repeat (first | refine blk_drewN ?_ _ | refine blk_drew ?_ | refine blk_alloc ?_ _)); exact BK223.out⟩
    have n1_ : Aside0 ((((((((((((((((w25.setCell ⟨gb254, 0, none⟩ (.int .i64 t238)).setCell ⟨gb254, 1, none⟩ (.int .i64 t239)).setCell ⟨gb254, 2, none⟩ (.bool t240)).setCell ⟨gb254, 3, none⟩ (.bool t241)).setCell ⟨gb254, 4, none⟩ (.int .i64 t242)).setCell ⟨gb254, 5, none⟩ (.int .i64 t243)).setCell ⟨gb254, 6, none⟩ (.int .i64 t244)).setCell ⟨gb254, 7, none⟩ (.bool t245)).setCell ⟨gb254, 8, none⟩ (.int .u64 t246)).setCell ⟨gb254, 9, none⟩ (.int .u64 t247)).setCell ⟨gb254, 10, none⟩ (.bool t248)).setCell ⟨gb254, 11, none⟩ (.int .u64 t249)).setCell ⟨gb254, 12, none⟩ (.int .u64 t250)).setCell ⟨gb254, 13, none⟩ (.string t251)).setCell ⟨gb254, 14, none⟩ (.string t252)).heap[gb254]? = some (.cells #[.int .i64 t238, .int .i64 t239, .bool t240, .bool t241, .int .i64 t242, .int .i64 t243, .int .i64 t244, .bool t245, .int .u64 t246, .int .u64 t247, .bool t248, .int .u64 t249, .int .u64 t250, .string t251, .string t252] 37 (0, 0))) := ⟨by (with_reducible repeat (first | refine blk_drewN ?_ _ | refine blk_drew ?_ | refine blk_alloc ?_ _)); refine blk_put (cs := #[.int .i64 t238, .int .i64 t239, .bool t240, .bool t241, .int .i64 t242, .int .i64 t243, .int .i64 t244, .bool t245, .int .u64 t246, .int .u64 t247, .bool t248, .int .u64 t249, .int .u64 t250, .string t251, .string (⟨#[]⟩ : ByteArray)]) ?_ 14 _ rfl; (with_reducible repeat (first | refine blk_drewN ?_ _ | refine blk_drew ?_ | refine blk_alloc ?_ _)); refine blk_put (cs := #[.int .i64 t238, .int .i64 t239, .bool t240, .bool t241, .int .i64 t242, .int .i64 t243, .int .i64 t244, .bool t245, .int .u64 t246, .int .u64 t247, .bool t248, .int .u64 t249, .int .u64 t250, .string (⟨#[]⟩ : ByteArray), .string (⟨#[]⟩ : ByteArray)]) ?_ 13 _ rfl; (with_reducible repeat (first | refine blk_drewN ?_ _ | refine blk_drew ?_ | refine blk_alloc ?_ _)); refine blk_put (cs := #[.int .i64 t238, .int .i64 t239, .bool t240, .bool t241, .int .i64 t242, .int .i64 t243, .int .i64 t244, .bool t245, .int .u64 t246, .int .u64 t247, .bool t248, .int .u64 t249, .int .u64 0, .string (⟨#[]⟩ : ByteArray), .string (⟨#[]⟩ : ByteArray)]) ?_ 12 _ rfl; (with_reducible repeat (first | refine blk_drewN ?_ _ | refine blk_drew ?_ | refine blk_alloc ?_ _)); refine blk_put (cs := #[.int .i64 t238, .int .i64 t239, .bool t240, .bool t241, .int .i64 t242, .int .i64 t243, .int .i64 t244, .bool t245, .int .u64 t246, .int .u64 t247, .bool t248, .int .u64 0, .int .u64 0, .string (⟨#[]⟩ : ByteArray), .string (⟨#[]⟩ : ByteArray)]) ?_ 11 _ rfl; (with_reducible repeat (first | refine blk_drewN ?_ _ | refine blk_drew ?_ | refine blk_alloc ?_ _)); refine blk_put (cs := #[.int .i64 t238, .int .i64 t239, .bool t240, .bool t241, .int .i64 t242, .int .i64 t243, .int .i64 t244, .bool t245, .int .u64 t246, .int .u64 t247, .bool false, .int .u64 0, .int .u64 0, .string (⟨#[]⟩ : ByteArray), .string (⟨#[]⟩ : ByteArray)]) ?_ 10 _ rfl; (with_reducible repeat (first | refine blk_drewN ?_ _ | refine blk_drew ?_ | refine blk_alloc ?_ _)); refine blk_put (cs := #[.int .i64 t238, .int .i64 t239, .bool t240, .bool t241, .int .i64 t242, .int .i64 t243, .int .i64 t244, .bool t245, .int .u64 t246, .int .u64 0, .bool false, .int .u64 0, .int .u64 0, .string (⟨#[]⟩ : ByteArray), .string (⟨#[]⟩ : ByteArray)]) ?_ 9 _ rfl; (with_reducible repeat (first | refine blk_drewN ?_ _ | refine blk_drew ?_ | refine blk_alloc ?_ _)); refine blk_put (cs := #[.int .i64 t238, .int .i64 t239, .bool t240, .bool t241, .int .i64 t242, .int .i64 t243, .int .i64 t244, .bool t245, .int .u64 0, .int .u64 0, .bool false, .int .u64 0, .int .u64 0, .string (⟨#[]⟩ : ByteArray), .string (⟨#[]⟩ : ByteArray)]) ?_ 8 _ rfl; (with_reducible repeat (first | refine blk_drewN ?_ _ | refine blk_drew ?_ | refine blk_alloc ?_ _)); refine blk_put (cs := #[.int .i64 t238, .int .i64 t239, .bool t240, .bool t241, .int .i64 t242, .int .i64 t243, .int .i64 t244, .bool false, .int .u64 0, .int .u64 0, .bool false, .int .u64 0, .int .u64 0, .string (⟨#[]⟩ : ByteArray), .string (⟨#[]⟩ : ByteArray)]) ?_ 7 _ rfl; (with_reducible repeat (first | refine blk_drewN ?_ _ | refine blk_drew ?_ | refine blk_alloc ?_ _)); refine blk_put (cs := #[.int .i64 t238, .int .i64 t239, .bool t240, .bool t241, .int .i64 t242, .int .i64 t243, .int .i64 0, .bool false, .int .u64 0, .int .u64 0, .bool false, .int .u64 0, .int .u64 0, .string (⟨#[]⟩ : ByteArray), .string (⟨#[]⟩ : ByteArray)]) ?_ 6 _ rfl; (with_reducible repeat (first | refine blk_drewN ?_ _ | refine blk_drew ?_ | refine blk_alloc ?_ _)); refine blk_put (cs := #[.int .i64 t238, .int .i64 t239, .bool t240, .bool t241, .int .i64 t242, .int .i64 0, .int .i64 0, .bool false, .int .u64 0, .int .u64 0, .bool false, .int .u64 0, .int .u64 0, .string (⟨#[]⟩ : ByteArray), .string (⟨#[]⟩ : ByteArray)]) ?_ 5 _ rfl; (with_reducible repeat (first | refine blk_drewN ?_ _ | refine blk_drew ?_ | refine blk_alloc ?_ _)); refine blk_put (cs := #[.int .i64 t238, .int .i64 t239, .bool t240, .bool t241, .int .i64 0, .int .i64 0, .int .i64 0, .bool false, .int .u64 0, .int .u64 0, .bool false, .int .u64 0, .int .u64 0, .string (⟨#[]⟩ : ByteArray), .string (⟨#[]⟩ : ByteArray)]) ?_ 4 _ rfl; (with_reducible repeat (first | refine blk_drewN ?_ _ | refine blk_drew ?_ | refine blk_alloc ?_ _)); refine blk_put (cs := #[.int .i64 t238, .int .i64 t239, .bool t240, .bool false, .int .i64 0, .int .i64 0, .int .i64 0, .bool false, .int .u64 0, .int .u64 0, .bool false, .int .u64 0, .int .u64 0, .string (⟨#[]⟩ : ByteArray), .string (⟨#[]⟩ : ByteArray)]) ?_ 3 _ rfl; (with_reducible repeat (first | refine blk_drewN ?_ _ | refine blk_drew ?_ | refine blk_alloc ?_ _)); refine blk_put (cs := #[.int .i64 t238, .int .i64 t239, .bool false, .bool false, .int .i64 0, .int .i64 0, .int .i64 0, .bool false, .int .u64 0, .int .u64 0, .bool false, .int .u64 0, .int .u64 0, .string (⟨#[]⟩ : ByteArray), .string (⟨#[]⟩ : ByteArray)]) ?_ 2 _ rfl; (with_reducible repeat (first | refine blk_drewN ?_ _ | refine blk_drew ?_ | refine blk_alloc ?_ _)); refine blk_put (cs := #[.int .i64 t238, .int .i64 0, .bool false, .bool false, .int .i64 0, .int .i64 0, .int .i64 0, .bool false, .int .u64 0, .int .u64 0, .bool false, .int .u64 0, .int .u64 0, .string (⟨#[]⟩ : ByteArray), .string (⟨#[]⟩ : ByteArray)]) ?_ 1 _ rfl; (with_reducible repeat (first | refine blk_drewN ?_ _ | refine blk_drew ?_ | refine blk_alloc ?_ _)); refine blk_put (cs := #[.int .i64 0, .int .i64 0, .bool false, .bool false, .int .i64 0, .int .i64 0, .int .i64 0, .bool false, .int .u64 0, .int .u64 0, .bool false, .int .u64 0, .int .u64 0, .string (⟨#[]⟩ : ByteArray), .string (⟨#[]⟩ : ByteArray)]) ?_ 0 _ rfl; (with_reducible repeat (first | refine blk_drewN ?_ _ | refine blk_drew ?_ | refine blk_alloc ?_ _)); exact BK254.out⟩
    have n2_ : Aside0 (Below w.heap.size w (((((((((((((((w25.setCell ⟨gb254, 0, none⟩ (.int .i64 t238)).setCell ⟨gb254, 1, none⟩ (.int .i64 t239)).setCell ⟨gb254, 2, none⟩ (.bool t240)).setCell ⟨gb254, 3, none⟩ (.bool t241)).setCell ⟨gb254, 4, none⟩ (.int .i64 t242)).setCell ⟨gb254, 5, none⟩ (.int .i64 t243)).setCell ⟨gb254, 6, none⟩ (.int .i64 t244)).setCell ⟨gb254, 7, none⟩ (.bool t245)).setCell ⟨gb254, 8, none⟩ (.int .u64 t246)).setCell ⟨gb254, 9, none⟩ (.int .u64 t247)).setCell ⟨gb254, 10, none⟩ (.bool t248)).setCell ⟨gb254, 11, none⟩ (.int .u64 t249)).setCell ⟨gb254, 12, none⟩ (.int .u64 t250)).setCell ⟨gb254, 13, none⟩ (.string t251)).setCell ⟨gb254, 14, none⟩ (.string t252))) := ⟨by repeat (first | (with_reducible first | exact HB.out | apply below_alloc | apply pw_below_drewN | apply below_drew1 | refine below_set ?_ GE223.out | refine below_set ?_ GE254.out) | exact HB.out)⟩
    (try clear BK223)
    (try clear BK254)
    (try clear HB)
    generalize (((((((((((((((w25.setCell ⟨gb254, 0, none⟩ (.int .i64 t238)).setCell ⟨gb254, 1, none⟩ (.int .i64 t239)).setCell ⟨gb254, 2, none⟩ (.bool t240)).setCell ⟨gb254, 3, none⟩ (.bool t241)).setCell ⟨gb254, 4, none⟩ (.int .i64 t242)).setCell ⟨gb254, 5, none⟩ (.int .i64 t243)).setCell ⟨gb254, 6, none⟩ (.int .i64 t244)).setCell ⟨gb254, 7, none⟩ (.bool t245)).setCell ⟨gb254, 8, none⟩ (.int .u64 t246)).setCell ⟨gb254, 9, none⟩ (.int .u64 t247)).setCell ⟨gb254, 10, none⟩ (.bool t248)).setCell ⟨gb254, 11, none⟩ (.int .u64 t249)).setCell ⟨gb254, 12, none⟩ (.int .u64 t250)).setCell ⟨gb254, 13, none⟩ (.string t251)).setCell ⟨gb254, 14, none⟩ (.string t252)) = w28 at n0_ n1_ n2_ ⊢
    have BK223 := n0_
    have BK254 := n1_
    have HB := n2_
    clear n0_ n1_ n2_
    have n0_ := Aside0.mk (blk_drew BK223.out)
    have n1_ := Aside0.mk (blk_drew BK254.out)
    have n2_ := Aside0.mk (below_drew1 HB.out)
    clear BK223 BK254 HB
    have BK223 := n0_
    have BK254 := n1_
    have HB := n2_
    clear n0_ n1_ n2_
    refine start_ (n := 15) (S := fun w' => w'.cell? ⟨gb254, 0, none⟩ = some (.int .i64 t238) ∧ w'.cell? ⟨gb254, 1, none⟩ = some (.int .i64 t239) ∧ w'.cell? ⟨gb254, 2, none⟩ = some (.bool t240) ∧ w'.cell? ⟨gb254, 3, none⟩ = some (.bool t241) ∧ w'.cell? ⟨gb254, 4, none⟩ = some (.int .i64 t242) ∧ w'.cell? ⟨gb254, 5, none⟩ = some (.int .i64 t243) ∧ w'.cell? ⟨gb254, 6, none⟩ = some (.int .i64 t244) ∧ w'.cell? ⟨gb254, 7, none⟩ = some (.bool t245) ∧ w'.cell? ⟨gb254, 8, none⟩ = some (.int .u64 t246) ∧ w'.cell? ⟨gb254, 9, none⟩ = some (.int .u64 t247) ∧ w'.cell? ⟨gb254, 10, none⟩ = some (.bool t248) ∧ w'.cell? ⟨gb254, 11, none⟩ = some (.int .u64 t249) ∧ w'.cell? ⟨gb254, 12, none⟩ = some (.int .u64 t250) ∧ w'.cell? ⟨gb254, 13, none⟩ = some (.string t251) ∧ w'.cell? ⟨gb254, 14, none⟩ = some (.string t252)) (ds := []) #[false, false, false, false, false, false, false, false, false, false, false, false, false, false, false] (by kernel_rfl) rfl rfl ⟨(blk_cell BK254.out 0).trans rfl, (blk_cell BK254.out 1).trans rfl, (blk_cell BK254.out 2).trans rfl, (blk_cell BK254.out 3).trans rfl, (blk_cell BK254.out 4).trans rfl, (blk_cell BK254.out 5).trans rfl, (blk_cell BK254.out 6).trans rfl, (blk_cell BK254.out 7).trans rfl, (blk_cell BK254.out 8).trans rfl, (blk_cell BK254.out 9).trans rfl, (blk_cell BK254.out 10).trans rfl, (blk_cell BK254.out 11).trans rfl, (blk_cell BK254.out 12).trans rfl, (blk_cell BK254.out 13).trans rfl, (blk_cell BK254.out 14).trans rfl⟩ (fun hHeld => ?_); refine with_tabW excuse_quote.tab5 excuse_quote.bits5 (fun HT_ HW_ => ?_)
    generalize w28.drew = w29 at BK223 BK254 HB hHeld ⊢
    refine pure_ (i := 0) (N := some 29) (v := ?_) (a' := ?_) #[true, false, false, false, false, false, false, false, false, false, false, false, false, false, false] rfl rfl (any_of HT_.out (by kernel_rfl)) (fun _ _ _ h => h) (Or.inl ⟨by rfl, ?_⟩) ?_ ?_
    rotate_left
    ·
     intro w'
     go_simp
     with_reducible rfl
    rotate_left
    ·
     simp only [Act.put, List.setIfInBounds_toArray, List.set_cons_zero, List.set_cons_succ, i64_w, i32_w]
     rfl
    refine pure_ (i := 1) (N := some 30) (v := ?_) (a' := ?_) #[true, true, false, false, false, false, false, false, false, false, false, false, false, false, false] rfl rfl (any_of HT_.out (by kernel_rfl)) (fun _ _ _ h => h) (Or.inl ⟨by rfl, ?_⟩) ?_ ?_
    rotate_left
    ·
     intro w'
     go_simp
     with_reducible rfl
    rotate_left
    ·
     simp only [Act.put, List.setIfInBounds_toArray, List.set_cons_zero, List.set_cons_succ, i64_w, i32_w]
     rfl
    refine pure_ (i := 5) (N := some 34) (v := ?_) (a' := ?_) #[true, true, false, false, false, true, false, false, false, false, false, false, false, false, false] rfl rfl (any_of HT_.out (by kernel_rfl)) (fun _ _ _ h => h) (Or.inl ⟨by rfl, ?_⟩) ?_ ?_
    rotate_left
    ·
     intro w'
     go_simp
     with_reducible rfl
    rotate_left
    ·
     simp only [Act.put, List.setIfInBounds_toArray, List.set_cons_zero, List.set_cons_succ, i64_w, i32_w]
     rfl
    refine pure_ (i := 11) (N := some 40) (v := ?_) (a' := ?_) #[true, true, false, false, false, true, false, false, false, false, false, true, false, false, false] rfl rfl (any_of HT_.out (by kernel_rfl)) (fun _ _ _ h => h) (Or.inl ⟨by rfl, ?_⟩) ?_ ?_
    rotate_left
    ·
     intro w'
     go_simp
     with_reducible rfl
    rotate_left
    ·
     simp only [Act.put, List.setIfInBounds_toArray, List.set_cons_zero, List.set_cons_succ, i64_w, i32_w]
     rfl
    refine take_ (i := 2) (N := some 31) (v := ?_) (a' := ?_) #[true, true, true, false, false, true, false, false, false, false, false, true, false, false, false] rfl rfl (take_ofW HT_.out HW_.out (by kernel_rfl)) (fun _ _ _ h => h) (Or.inl ⟨by rfl, ?_⟩) hHeld ?_ ?_
    rotate_left
    ·
     rintro w' ⟨s0, s1, s2, s3, s4, s5, s6, s7, s8, s9, s10, s11, s12, s13, s14⟩
     go_simp
     with_reducible rfl
    rotate_left
    ·
     simp only [Act.put, List.setIfInBounds_toArray, List.set_cons_zero, List.set_cons_succ, i64_w, i32_w]
     rfl
    refine pure_ (i := 3) (N := some 32) (v := ?_) (a' := ?_) #[true, true, true, true, false, true, false, false, false, false, false, true, false, false, false] rfl rfl (any_of HT_.out (by kernel_rfl)) (fun _ _ _ h => h) (Or.inl ⟨by rfl, ?_⟩) ?_ ?_
    rotate_left
    ·
     intro w'
     go_simp
     with_reducible rfl
    rotate_left
    ·
     simp only [Act.put, List.setIfInBounds_toArray, List.set_cons_zero, List.set_cons_succ, i64_w, i32_w]
     rfl
    refine pure_ (i := 4) (N := some 33) (v := ?_) (a' := ?_) #[true, true, true, true, true, true, false, false, false, false, false, true, false, false, false] rfl rfl (any_of HT_.out (by kernel_rfl)) (fun _ _ _ h => h) (Or.inl ⟨by rfl, ?_⟩) ?_ ?_
    rotate_left
    ·
     intro w'
     go_simp
     with_reducible rfl
    rotate_left
    ·
     simp only [Act.put, List.setIfInBounds_toArray, List.set_cons_zero, List.set_cons_succ, i64_w, i32_w]
     rfl
    refine take_ (i := 6) (N := some 35) (v := ?_) (a' := ?_) #[true, true, true, true, true, true, true, false, false, false, false, true, false, false, false] rfl rfl (take_ofW HT_.out HW_.out (by kernel_rfl)) (fun _ _ _ h => h) (Or.inl ⟨by rfl, ?_⟩) hHeld ?_ ?_
    rotate_left
    ·
     rintro w' ⟨s0, s1, s2, s3, s4, s5, s6, s7, s8, s9, s10, s11, s12, s13, s14⟩
     go_simp
     with_reducible rfl
    rotate_left
    ·
     simp only [Act.put, List.setIfInBounds_toArray, List.set_cons_zero, List.set_cons_succ, i64_w, i32_w]
     rfl
    refine pure_ (i := 7) (N := some 36) (v := ?_) (a' := ?_) #[true, true, true, true, true, true, true, true, false, false, false, true, false, false, false] rfl rfl (any_of HT_.out (by kernel_rfl)) (fun _ _ _ h => h) (Or.inl ⟨by rfl, ?_⟩) ?_ ?_
    rotate_left
    ·
     intro w'
     go_simp
     with_reducible rfl
    rotate_left
    ·
     simp only [Act.put, List.setIfInBounds_toArray, List.set_cons_zero, List.set_cons_succ, i64_w, i32_w]
     rfl
    refine pure_ (i := 8) (N := some 37) (v := ?_) (a' := ?_) #[true, true, true, true, true, true, true, true, true, false, false, true, false, false, false] rfl rfl (any_of HT_.out (by kernel_rfl)) (fun _ _ _ h => h) (Or.inl ⟨by rfl, ?_⟩) ?_ ?_
    rotate_left
    ·
     intro w'
     go_simp
     with_reducible rfl
    rotate_left
    ·
     simp only [Act.put, List.setIfInBounds_toArray, List.set_cons_zero, List.set_cons_succ, i64_w, i32_w]
     rfl
    refine pure_ (i := 9) (N := some 38) (v := ?_) (a' := ?_) #[true, true, true, true, true, true, true, true, true, true, false, true, false, false, false] rfl rfl (any_of HT_.out (by kernel_rfl)) (fun _ _ _ h => h) (Or.inl ⟨by rfl, ?_⟩) ?_ ?_
    rotate_left
    ·
     intro w'
     go_simp
     with_reducible rfl
    rotate_left
    ·
     simp only [Act.put, List.setIfInBounds_toArray, List.set_cons_zero, List.set_cons_succ, i64_w, i32_w]
     rfl
    refine pure_ (i := 10) (N := some 39) (v := ?_) (a' := ?_) #[true, true, true, true, true, true, true, true, true, true, true, true, false, false, false] rfl rfl (any_of HT_.out (by kernel_rfl)) (fun _ _ _ h => h) (Or.inl ⟨by rfl, ?_⟩) ?_ ?_
    rotate_left
    ·
     intro w'
     go_simp
     with_reducible rfl
    rotate_left
    ·
     simp only [Act.put, List.setIfInBounds_toArray, List.set_cons_zero, List.set_cons_succ, i64_w, i32_w]
     rfl
    refine pure_ (i := 13) (N := some 2) (v := ?_) (a' := ?_) #[true, true, true, true, true, true, true, true, true, true, true, true, false, true, false] rfl rfl (any_of HT_.out (by kernel_rfl)) (fun _ _ _ h => h) (Or.inl ⟨by rfl, ?_⟩) ?_ ?_
    rotate_left
    ·
     intro w'
     go_simp
     with_reducible rfl
    rotate_left
    ·
     simp only [Act.put, List.setIfInBounds_toArray, List.set_cons_zero, List.set_cons_succ, i64_w, i32_w]
     rfl
    refine take_ (i := 12) (N := some 41) (v := ?_) (a' := ?_) #[true, true, true, true, true, true, true, true, true, true, true, true, true, true, false] rfl rfl (take_ofW HT_.out HW_.out (by kernel_rfl)) (fun _ _ _ h => h) (Or.inl ⟨by rfl, ?_⟩) hHeld ?_ ?_
    rotate_left
    ·
     rintro w' ⟨s0, s1, s2, s3, s4, s5, s6, s7, s8, s9, s10, s11, s12, s13, s14⟩
     go_simp
     with_reducible rfl
    rotate_left
    ·
     simp only [Act.put, List.setIfInBounds_toArray, List.set_cons_zero, List.set_cons_succ, i64_w, i32_w]
     rfl
    refine one_ (i := 14) (N := none) #[true, true, true, true, true, true, true, true, true, true, true, true, true, true, true] rfl rfl (one_of HT_.out (by kernel_rfl)) (by decide) (fun K hK => ?_)
    have hs30 : w29.cell? ⟨gb223, 0, none⟩ = some (.bool false) := (blk_cell BK223.out 0).trans rfl
    have hfs30 := blk_frozen BK223.out 0
    have hns30_1 := NB254_223.out
    have hms30_1 := NB223_254.out
    have hs31 : w29.cell? ⟨gb223, 1, none⟩ = some (.int .u64 0) := (blk_cell BK223.out 1).trans rfl
    have hfs31 := blk_frozen BK223.out 1
    have hns31_1 := NB254_223.out
    have hms31_1 := NB223_254.out
    have hs32 : w29.cell? ⟨gb223, 2, none⟩ = some (.int .u64 0) := (blk_cell BK223.out 2).trans rfl
    have hfs32 := blk_frozen BK223.out 2
    have hns32_1 := NB254_223.out
    have hms32_1 := NB223_254.out
    refine skip_ (w1 := ?_) (by rfl) rfl ?_ ?_
    rotate_left
    ·
     go_simp
     rfl
    refine hK.out _ _ ⟨((cell_far (p := ⟨gb223, _, none⟩) NB254_223.out _).trans (((cell_far (p := ⟨gb223, _, none⟩) NB254_223.out _).trans (((cell_far (p := ⟨gb223, _, none⟩) NB254_223.out _).trans (hHeld.1)))))), ((cell_far (p := ⟨gb223, _, none⟩) NB254_223.out _).trans (((cell_far (p := ⟨gb223, _, none⟩) NB254_223.out _).trans (((cell_far (p := ⟨gb223, _, none⟩) NB254_223.out _).trans (hHeld.2.1)))))), ((cell_far (p := ⟨gb223, _, none⟩) NB254_223.out _).trans (((cell_far (p := ⟨gb223, _, none⟩) NB254_223.out _).trans (((cell_far (p := ⟨gb223, _, none⟩) NB254_223.out _).trans (hHeld.2.2.1)))))), ((cell_far (p := ⟨gb223, _, none⟩) NB254_223.out _).trans (((cell_far (p := ⟨gb223, _, none⟩) NB254_223.out _).trans (((cell_far (p := ⟨gb223, _, none⟩) NB254_223.out _).trans (hHeld.2.2.2.1)))))), ((cell_far (p := ⟨gb223, _, none⟩) NB254_223.out _).trans (((cell_far (p := ⟨gb223, _, none⟩) NB254_223.out _).trans (((cell_far (p := ⟨gb223, _, none⟩) NB254_223.out _).trans (hHeld.2.2.2.2.1)))))), ((cell_far (p := ⟨gb223, _, none⟩) NB254_223.out _).trans (((cell_far (p := ⟨gb223, _, none⟩) NB254_223.out _).trans (((cell_far (p := ⟨gb223, _, none⟩) NB254_223.out _).trans (hHeld.2.2.2.2.2.1)))))), ((cell_far (p := ⟨gb223, _, none⟩) NB254_223.out _).trans (((cell_far (p := ⟨gb223, _, none⟩) NB254_223.out _).trans (((cell_far (p := ⟨gb223, _, none⟩) NB254_223.out _).trans (hHeld.2.2.2.2.2.2.1)))))), ((cell_far (p := ⟨gb223, _, none⟩) NB254_223.out _).trans (((cell_far (p := ⟨gb223, _, none⟩) NB254_223.out _).trans (((cell_far (p := ⟨gb223, _, none⟩) NB254_223.out _).trans (hHeld.2.2.2.2.2.2.2.1)))))), ((cell_far (p := ⟨gb223, _, none⟩) NB254_223.out _).trans (((cell_far (p := ⟨gb223, _, none⟩) NB254_223.out _).trans (((cell_far (p := ⟨gb223, _, none⟩) NB254_223.out _).trans (hHeld.2.2.2.2.2.2.2.2.1)))))), ((cell_far (p := ⟨gb223, _, none⟩) NB254_223.out _).trans (((cell_far (p := ⟨gb223, _, none⟩) NB254_223.out _).trans (((cell_far (p := ⟨gb223, _, none⟩) NB254_223.out _).trans (hHeld.2.2.2.2.2.2.2.2.2.1)))))), ((cell_far (p := ⟨gb223, _, none⟩) NB254_223.out _).trans (((cell_far (p := ⟨gb223, _, none⟩) NB254_223.out _).trans (((cell_far (p := ⟨gb223, _, none⟩) NB254_223.out _).trans (hHeld.2.2.2.2.2.2.2.2.2.2.1)))))), ((cell_far (p := ⟨gb223, _, none⟩) NB254_223.out _).trans (((cell_far (p := ⟨gb223, _, none⟩) NB254_223.out _).trans (((cell_far (p := ⟨gb223, _, none⟩) NB254_223.out _).trans (hHeld.2.2.2.2.2.2.2.2.2.2.2.1)))))), ((cell_far (p := ⟨gb223, _, none⟩) NB254_223.out _).trans (((cell_far (p := ⟨gb223, _, none⟩) NB254_223.out _).trans (((cell_far (p := ⟨gb223, _, none⟩) NB254_223.out _).trans (hHeld.2.2.2.2.2.2.2.2.2.2.2.2.1)))))), ((cell_far (p := ⟨gb223, _, none⟩) NB254_223.out _).trans (((cell_far (p := ⟨gb223, _, none⟩) NB254_223.out _).trans (((cell_far (p := ⟨gb223, _, none⟩) NB254_223.out _).trans (hHeld.2.2.2.2.2.2.2.2.2.2.2.2.2.1)))))), ((cell_far (p := ⟨gb223, _, none⟩) NB254_223.out _).trans (((cell_far (p := ⟨gb223, _, none⟩) NB254_223.out _).trans (((cell_far (p := ⟨gb223, _, none⟩) NB254_223.out _).trans (hHeld.2.2.2.2.2.2.2.2.2.2.2.2.2.2))))))⟩ (fun hHeld => ?_)
    clear hK K
    refine done_ (done_of HT_.out (by kernel_rfl)) ?_
    try go_wp2
    refine bodyPost_ret (results_tc rfl _ _ gb223 28 #[.bool t245, .int .u64 t246, .int .u64 t247] (0, 0) _ rfl (by (with_reducible repeat (first | refine blk_drewN ?_ _ | refine blk_drew ?_ | refine blk_alloc ?_ _)); refine blk_put (cs := #[.bool t245, .int .u64 t246, .int .u64 0]) ?_ 2 _ rfl; (with_reducible repeat (first | refine blk_drewN ?_ _ | refine blk_drew ?_ | refine blk_alloc ?_ _)); refine blk_put (cs := #[.bool t245, .int .u64 0, .int .u64 0]) ?_ 1 _ rfl; (with_reducible repeat (first | refine blk_drewN ?_ _ | refine blk_drew ?_ | refine blk_alloc ?_ _)); refine blk_put (cs := #[.bool false, .int .u64 0, .int .u64 0]) ?_ 0 _ rfl; (with_reducible repeat (first | refine blk_drewN ?_ _ | refine blk_drew ?_ | refine blk_alloc ?_ _)); exact BK223.out) Tryd.underlying28 rfl (by kernel_rfl)) rfl ?_
    exact ⟨by first | rfl | (simp [errW_none, errW_some] <;> rfl) | (simp only [← hji19, ← hji20]; first | rfl | (simp [errW_none, errW_some] <;> rfl)) | (simp [*, errW_none, errW_some] <;> rfl), by repeat (first | (with_reducible first | exact HB.out | apply below_alloc | apply pw_below_drewN | apply below_drew1 | refine below_set ?_ GE223.out | refine below_set ?_ GE254.out) | exact HB.out)⟩
   ·
    rw [if_neg c22] at H
    exact absurd H (by simp)
  ·
   rw [if_neg c21] at H
   exact absurd H (by simp)

/-! ### ip6_within: function 53 -/
def ip6_within.f (a0 : Int) (a1 : Int) : Option (Bool) := if a0 ≥ 0 then (some (decide (a0 ≤ a1))) else (some false)
set_option maxHeartbeats 8000000 in
set_option maxRecDepth 100000 in
theorem ip6_within.calls (a0 : Int) (a1 : Int) (r : Bool) (w : World) (h : ip6_within.f a0 a1 = some r) :
  Calls Tryd.prog 53 #[.int .i64 a0, .int .i64 a1] w fun e w' => e = .returned (.bool r) ∧ Drawn0 w w' := by
 have H : (if a0 ≥ 0 then (some (decide (a0 ≤ a1))) else (some false)) = some r := h
 clear h
 by_cases c3 : a0 ≥ 0
 ·
  rw [if_pos c3] at H
  have c3b0 : decide (0 ≤ a0) = true := decide_eq_true c3
  clear c3
  obtain rfl := Option.some.inj H
  go_enter Tryd.func53, Tryd.ntmps53
  go_wp2
  go_ret
  exact ⟨by first | rfl | (simp; done) | (simp [*]; done), by repeat (first | exact Drawn0.refl _ | apply Drawn0.step)⟩
 ·
  rw [if_neg c3] at H
  have c3b0 : decide (0 ≤ a0) = false := decide_eq_false c3
  clear c3
  obtain rfl := Option.some.inj H
  go_enter Tryd.func53, Tryd.ntmps53
  go_wp2
  go_ret
  exact ⟨by first | rfl | (simp; done) | (simp [*]; done), by repeat (first | exact Drawn0.refl _ | apply Drawn0.step)⟩

/-! ### ip6_Lay: function 26 (by hand) -/
theorem ip6_within.yes {x b : Int} (h : 0 ≤ x ∧ x ≤ b) : ip6_within.f x b = some true := by
 unfold ip6_within.f; rw [if_pos (by omega), decide_eq_true (by omega)]
theorem ip6_within.no {x b : Int} (h : ¬ (0 ≤ x ∧ x ≤ b)) : ip6_within.f x b = some false := by
 unfold ip6_within.f; split
 · rw [decide_eq_false (by omega)]
 · rfl
/-- A packet's first number. -/
def ip6_Lay.first (cl fl : Int) : Int := IntKind.u64.wrap (Go.bits .or .i64 (Go.bits .or .i64 1610612736 (cl * 1048576)) fl)
/-- The first so many of the ends' numbers, laid. -/
def ip6_Lay.ends (fh flo th tlo : Int) : Nat → List Int
 | 0 => []
 | 1 => MBe.be fh 8
 | 2 => MBe.be fh 8 ++ MBe.be flo 8
 | 3 => MBe.be fh 8 ++ MBe.be flo 8 ++ MBe.be th 8
 | _ => MBe.be fh 8 ++ MBe.be flo 8 ++ MBe.be th 8 ++ MBe.be tlo 8
theorem ip6_Lay.ends_length (fh flo th tlo : Int) : ∀ n, (ip6_Lay.ends fh flo th tlo n).length ≤ 32
 | 0 => by simp [ip6_Lay.ends]
 | 1 => by simp [ip6_Lay.ends, MBe.be_length]
 | 2 => by simp [ip6_Lay.ends, MBe.be_length]
 | 3 => by simp [ip6_Lay.ends, MBe.be_length]
 | n + 4 => by simp [ip6_Lay.ends, MBe.be_length]
/-- What stands ahead of the ends. -/
def ip6_Lay.head (cl fl nx hp n : Int) : List Int := MBe.be (ip6_Lay.first cl fl) 4 ++ MBe.be n 2 ++ [nx, hp]
def ip6_Lay.of (cl fl nx hp fh flo th tlo : Int) (data : ByteArray) : List Int := (ip6_Lay.head cl fl nx hp (data.size : Int) ++ ip6_Lay.ends fh flo th tlo 4) ++ bytesOf data
theorem ip6_put {l : List Int} {n : Int} {k : Int} {m : Nat} (hk : octet_Put.wid k = m) (hl : l.length ≤ 140737488355200) : octet_Put.f l k n = some (l ++ MBe.be n m) := by
 unfold octet_Put.f; rw [if_pos hl, hk]
set_option maxHeartbeats 2000000 in
set_option maxRecDepth 100000 in
theorem ip6_Lay.good (cl fl nx hp fh flo th tlo : Int) (data : ByteArray) (w : World) (h1 : 0 ≤ cl ∧ cl ≤ 255) (h2 : 0 ≤ nx ∧ nx ≤ 255) (h3 : 0 ≤ hp ∧ hp ≤ 255) (h4 : 0 ≤ fl ∧ fl ≤ 1048575) (hs : data.size ≤ 65535) :
  Calls Tryd.prog 26 #[.agg #[.int .i64 cl, .int .i64 fl, .int .i64 nx, .int .i64 hp, .bool true, .int .u64 fh, .int .u64 flo, .bool true, .int .u64 th, .int .u64 tlo, .string data]] w fun e w' => e = .returned (.tuple #[.string (strOfNums (ip6_Lay.of cl fl nx hp fh flo th tlo data)), .int .i64 0]) ∧ Below w.heap.size w w' := by
 obtain ⟨wb, hwb⟩ : ∃ wb, w.alloc (.cells #[.int .i64 cl, .int .i64 fl, .int .i64 nx, .int .i64 hp, .bool true, .int .u64 fh, .int .u64 flo, .bool true, .int .u64 th, .int .u64 tlo, .string data] 45) = wb := ⟨_, rfl⟩
 have HB := Aside0.mk (Below.refl wb.heap.size wb)
 have HBW := Aside0.mk (show Below w.heap.size w wb by rw [← hwb]; exact below_alloc (Below.refl _ _) _)
 have HWS := Aside0.mk (show wb.heap.size = w.heap.size + 1 by rw [← hwb]; simp [go_sem])
 have HX := Aside0.mk (show wb.heap[w.heap.size]? = some (.cells #[.int .i64 cl, .int .i64 fl, .int .i64 nx, .int .i64 hp, .bool true, .int .u64 fh, .int .u64 flo, .bool true, .int .u64 th, .int .u64 tlo, .string data] 45 (0, 0)) by rw [← hwb]; exact heap_alloc_new _ _)
 have hu26 := Tryd.underlying45
 have hu24 := Tryd.underlying28
 have x0 : wb.cell? ⟨w.heap.size, 0, none⟩ = some (.int .i64 cl) := MStr.block_cell HX.out rfl
 have x1 : wb.cell? ⟨w.heap.size, 1, none⟩ = some (.int .i64 fl) := MStr.block_cell HX.out rfl
 have x2 : wb.cell? ⟨w.heap.size, 2, none⟩ = some (.int .i64 nx) := MStr.block_cell HX.out rfl
 have x3 : wb.cell? ⟨w.heap.size, 3, none⟩ = some (.int .i64 hp) := MStr.block_cell HX.out rfl
 have x4 : wb.cell? ⟨w.heap.size, 4, none⟩ = some (.bool true) := MStr.block_cell HX.out rfl
 have x7 : wb.cell? ⟨w.heap.size, 7, none⟩ = some (.bool true) := MStr.block_cell HX.out rfl
 have x10 : wb.cell? ⟨w.heap.size, 10, none⟩ = some (.string data) := MStr.block_cell HX.out rfl
 obtain ⟨c0, c1⟩ := h1; obtain ⟨n0, n1⟩ := h2; obtain ⟨p0, p1⟩ := h3; obtain ⟨f0, f1⟩ := h4
 go_enter Tryd.func26, Tryd.ntmps26
 go_wp2_with fail
 clear hwb
 refine (ip6_within.calls cl 255 true _ (ip6_within.yes ⟨c0, c1⟩)).mono ?_
 rintro e w2 ⟨rfl, ⟨nd1, rfl⟩⟩
 go_wp2_with fail
 refine (ip6_within.calls nx 255 true _ (ip6_within.yes ⟨n0, n1⟩)).mono ?_
 rintro e w2 ⟨rfl, ⟨nd2, rfl⟩⟩
 go_wp2_with fail
 refine (ip6_within.calls hp 255 true _ (ip6_within.yes ⟨p0, p1⟩)).mono ?_
 rintro e w2 ⟨rfl, ⟨nd3, rfl⟩⟩
 go_wp2_with fail
 refine (ip6_within.calls fl 1048575 true _ (ip6_within.yes ⟨f0, f1⟩)).mono ?_
 rintro e w2 ⟨rfl, ⟨nd4, rfl⟩⟩
 go_wp2_with fail
 refine (octet_Put.calls none 0 [] 4 _ _ _ (Kd.C_nil _ _) (Nat.le_refl _) (ip6_put (m := 4) (by decide) (by simp))).mono ?_
 rintro e w2 ⟨v2, rfl, ho, hb⟩
 replace HX := Aside0.mk (MStr.block_below (w := wb.drewN (nd1 + nd2 + nd3 + nd4)) HX.out hb)
 have HO := Aside0.mk (Kd.R_lower ho (show wb.heap.size ≤ _ from (show Below wb.heap.size wb _ from (sh_B HB)).size))
 replace HB := sh_S HB hb
 clear ho hb x0 x1 x2 x3 x4 x7 x10
 obtain ⟨L1, hL1⟩ : ∃ L1, [] ++ MBe.be (IntKind.u64.wrap (Go.bits .or .i64 (Go.bits .or .i64 1610612736 (cl * 1048576)) fl)) 4 = L1 := ⟨_, rfl⟩
 rw [hL1] at HO
 have HL1 := Aside0.mk hL1
 have HN1 := Aside0.mk (show L1.length = 4 by rw [← hL1]; simp [MBe.be_length])
 clear hL1
 obtain ⟨A2, c2, rfl⟩ := Kd.R_slice HO.out
 have x10 : w2.cell? ⟨w.heap.size, 10, none⟩ = some (.string data) := MStr.block_cell HX.out rfl
 go_wp2_with fail
 refine (octet_Put.calls A2 c2 L1 2 _ _ _ (Kd.R_reads' HO.out).2.2 (Kd.R_reads' HO.out).2.1 (ip6_put (m := 2) (by decide) (by have := HN1.out; omega))).mono ?_
 rintro e w3 ⟨v3, rfl, ho, hb⟩
 replace HX := Aside0.mk (MStr.block_below HX.out hb)
 replace HO := Aside0.mk (Kd.R_lower ho (show wb.heap.size ≤ _ from HB.out.size))
 replace HB := sh_S HB hb
 clear ho hb x10
 obtain ⟨L2, hL2⟩ : ∃ L2, L1 ++ MBe.be (data.size : Int) 2 = L2 := ⟨_, rfl⟩
 rw [hL2] at HO
 have HL2 := Aside0.mk hL2
 have HN2 := Aside0.mk (show L2.length = 6 by rw [← hL2]; simp [MBe.be_length, HN1.out])
 clear hL2
 obtain ⟨A3, c3, rfl⟩ := Kd.R_slice HO.out
 have x2 : w3.cell? ⟨w.heap.size, 2, none⟩ = some (.int .i64 nx) := MStr.block_cell HX.out rfl
 have x3 : w3.cell? ⟨w.heap.size, 3, none⟩ = some (.int .i64 hp) := MStr.block_cell HX.out rfl
 go_wp2_with (first | ((with_reducible refine gate_dst (N := 69) rfl ?_); refine Kd.R_lit (Kd.int .u8) _ 5 ?hg (N := 69) ?hd (xs := ([nx, hp] : List Int)) (inner := [.int .u8 nx, .int .u8 hp]) (ok := fun _ => True) (okp := fun _ => True) ?hr ?hp (fun _ hk => hk) trivial (Below.refl _ _) (Nat.le_refl _) (by simp) ?_; (case hd => rfl); (case hg => rfl); (case hr => first | (go_simp; done) | (go_simp; rfl)); (case hp => exact (Reps.one (show Kd.M (Kd.int .u8) _ _ _ nx [.int .u8 nx] from rfl) (Reps.one (show Kd.M (Kd.int .u8) _ _ _ hp [.int .u8 hp] from rfl) (Reps.none _ _)))); intro v7 w7 ho hb hg_ hnew_; clear hg_ hnew_; obtain ⟨A7, c7, e_⟩ := Kd.R_slice ho; subst e_; have C7 := Aside0.mk (Kd.R_reads' ho).2.2; have L7 := Aside0.mk (Kd.R_reads' ho).2.1; clear ho; replace HO := Aside0.mk (Kd.R_below HO.out hb); replace HX := Aside0.mk (MStr.block_below HX.out hb); replace HB := sh_S HB hb; clear hb) | ((with_reducible refine gate_builtin (b := .append) (xs := #[.tmp 62, .tmp 69]) rfl ?_); at_builtin; refine Kd.R_append_rows (Kd.int .u8) (w0 := wb) wb.heap.size rfl (.tmp 62) (.tmp 69) 70 5 (.int .u8 0) 1 rfl Tryd.underlying70 info5 rfl (by decide) (by omega) (.slice A3 L2.length c3) L2 [nx, hp] _ _ _ (fun _ => True) (fun _ => False) rfl rfl ?aO ?aR (fun _ _ h => h) (fun _ h => h.elim) ?aF ?aB ?aS ?aL ?_; (case aR => exact C7.out); (case aB => exact HB.out); (case aF => exact (fun _ _ => trivial)); (case aO => exact HO.out); (case aS => exact HB.out.size); (case aL => have := HN2.out; simp only [List.length_cons, List.length_nil]; omega); intro v8 w8 ho hb hg hat; have n0_ := Aside0.mk hb; have O8 := Aside0.mk ho; replace HX := Aside0.mk ((hg.block _ (Array.getElem?_eq_some_iff.1 HX.out).1 (fun e => by have h_ := Kd.R_base HO.out _ e.symm; have := HWS.out; omega)).trans HX.out); clear x2 x3 HO; have x5 := MStr.block_cell (j := 5) HX.out rfl; have x6 := MStr.block_cell (j := 6) HX.out rfl; have x8 := MStr.block_cell (j := 8) HX.out rfl; have x9 := MStr.block_cell (j := 9) HX.out rfl; clear HB; have HB := n0_; clear n0_; clear ho hb hg hat))
 obtain ⟨L3, hL3⟩ : ∃ L3, L2 ++ [nx, hp] = L3 := ⟨_, rfl⟩
 rw [hL3] at O8
 have HL3 := Aside0.mk hL3
 have HN3 := Aside0.mk (show L3.length = 8 by rw [← hL3]; simp [HN2.out])
 clear hL3 x5 x6 x8 x9 C7 L7
 have i0 : ∀ w, (Instr.index 94 (.agg #[.int .u64 fh, .int .u64 flo, .int .u64 th, .int .u64 tlo]) (.int .i64 0)).run Tryd.prog w = .ok (.int .u64 fh) w := fun _ => by kernel_rfl
 have i1 : ∀ w, (Instr.index 94 (.agg #[.int .u64 fh, .int .u64 flo, .int .u64 th, .int .u64 tlo]) (.int .i64 1)).run Tryd.prog w = .ok (.int .u64 flo) w := fun _ => by kernel_rfl
 have i2 : ∀ w, (Instr.index 94 (.agg #[.int .u64 fh, .int .u64 flo, .int .u64 th, .int .u64 tlo]) (.int .i64 2)).run Tryd.prog w = .ok (.int .u64 th) w := fun _ => by kernel_rfl
 have i3 : ∀ w, (Instr.index 94 (.agg #[.int .u64 fh, .int .u64 flo, .int .u64 th, .int .u64 tlo]) (.int .i64 3)).run Tryd.prog w = .ok (.int .u64 tlo) w := fun _ => by kernel_rfl
 go_loopg [4, 84] 4 (fun kq v4 v84 w' => ∃ i : Nat, v84 = .int .i64 (i : Int) ∧ Aside0 (4 = i + kq) ∧ Aside0 (Kd.R (Kd.int .u8) 5 w' wb.heap.size (fun _ => True) v4 (L3 ++ ip6_Lay.ends fh flo th tlo i)) ∧ Aside0 (w'.heap[w.heap.size]? = some (.cells #[.int .i64 cl, .int .i64 fl, .int .i64 nx, .int .i64 hp, .bool true, .int .u64 fh, .int .u64 flo, .bool true, .int .u64 th, .int .u64 tlo, .string data] 45 (0, 0))) ∧ Aside0 (Below wb.heap.size wb w'))
 case atStart => exact ⟨0, rfl, ⟨rfl⟩, ⟨by rw [show ip6_Lay.ends fh flo th tlo 0 = [] from rfl, List.append_nil]; exact O8.out⟩, HX, HB⟩
 case round =>
  clear O8 HX HB
  obtain ⟨i, rfl, HI, HO, HX, HB⟩ := hrel
  have hi := HI.out
  obtain ⟨Li, hLi⟩ : ∃ Li, L3 ++ ip6_Lay.ends fh flo th tlo i = Li := ⟨_, rfl⟩
  have HE := Aside0.mk (show Li.length ≤ 40 by have := ip6_Lay.ends_length fh flo th tlo i; rw [← hLi, List.length_append, HN3.out]; omega)
  rw [hLi] at HO
  have HLi := Aside0.mk hLi
  clear hLi
  obtain ⟨A4, c4, rfl⟩ := Kd.R_slice HO.out
  cases gk with
  | zero =>
   obtain rfl : 4 = i := by omega
   clear hi HI i0 i1 i2 i3
   have x10 : wr.cell? ⟨w.heap.size, 10, none⟩ = some (.string data) := MStr.block_cell HX.out rfl
   go_wp2_with (first | ((with_reducible refine gate_builtin (b := .append) (xs := #[.tmp 91, .tmp 93]) rfl ?_); at_builtin; refine MStr.R_append_str (w0 := wb) wb.heap.size rfl (.tmp 91) (.tmp 93) 70 9 5 rfl Tryd.underlying70 Tryd.underlying9 info5 _ Li data rfl rfl HO.out HB.out HB.out.size (by have := HE.out; omega) ?_; intro v9 w9 ho hb hg; have hcv := own_string (P := Tryd.prog) Tryd.underlying70 Tryd.underlying5 Tryd.underlying9 (Kd.own_of_R ho); clear HO HB ho hg x10; have HB := Aside0.mk hb; clear hb))
   go_ret2
   refine ⟨?_, below_step HBW.out HB.out⟩
   rw [← HLi.out, ← HL3.out, ← HL2.out, ← HL1.out]
   unfold ip6_Lay.of ip6_Lay.head ip6_Lay.first
   simp
  | succ d =>
   rcases (show i = 0 ∨ i = 1 ∨ i = 2 ∨ i = 3 by omega) with rfl | rfl | rfl | rfl
   all_goals
    clear hi
    go_wp2_with fail
    refine (octet_Put.calls A4 c4 Li 8 _ _ _ (Kd.R_reads' HO.out).2.2 (Kd.R_reads' HO.out).2.1 (ip6_put (m := 8) (by decide) (by have := HE.out; omega))).mono ?_
    rintro e w5 ⟨v5, rfl, ho, hb⟩
    rw [← HLi.out, List.append_assoc] at ho
    replace HX := Aside0.mk (MStr.block_below HX.out hb)
    have HO5 := Aside0.mk (Kd.R_lower ho (show wb.heap.size ≤ _ from HB.out.size))
    replace HB := sh_S HB hb
    clear ho hb HO HE
    go_wp2_with fail
    go_roundg d
    case measure => omega
    case rel => first | exact ⟨1, rfl, ⟨by have := HI.out; omega⟩, ⟨HO5.out⟩, HX, HB⟩ | exact ⟨2, rfl, ⟨by have := HI.out; omega⟩, ⟨HO5.out⟩, HX, HB⟩ | exact ⟨3, rfl, ⟨by have := HI.out; omega⟩, ⟨HO5.out⟩, HX, HB⟩ | exact ⟨4, rfl, ⟨by have := HI.out; omega⟩, ⟨HO5.out⟩, HX, HB⟩
set_option maxHeartbeats 4000000 in
set_option maxRecDepth 100000 in
theorem ip6_Lay.bad (cl fl nx hp : Int) (s1 : Bool) (fh flo : Int) (s2 : Bool) (th tlo : Int) (data : ByteArray) (w : World) (hbad : ¬ ((0 ≤ cl ∧ cl ≤ 255) ∧ (0 ≤ nx ∧ nx ≤ 255) ∧ (0 ≤ hp ∧ hp ≤ 255) ∧ (0 ≤ fl ∧ fl ≤ 1048575) ∧ s1 = true ∧ s2 = true)) :
  Calls Tryd.prog 26 #[.agg #[.int .i64 cl, .int .i64 fl, .int .i64 nx, .int .i64 hp, .bool s1, .int .u64 fh, .int .u64 flo, .bool s2, .int .u64 th, .int .u64 tlo, .string data]] w fun e w' => e = .returned (.tuple #[.string ⟨#[]⟩, .int .i64 60]) ∧ Below w.heap.size w w' := by
 have HBW := Aside0.mk (below_alloc (Below.refl w.heap.size w) (.cells #[.int .i64 cl, .int .i64 fl, .int .i64 nx, .int .i64 hp, .bool s1, .int .u64 fh, .int .u64 flo, .bool s2, .int .u64 th, .int .u64 tlo, .string data] 45))
 have hu26 := Tryd.underlying45
 have hu24 := Tryd.underlying28
 by_cases h1 : 0 ≤ cl ∧ cl ≤ 255
 case neg =>
  have A1 := ip6_within.no h1
  clear h1 hbad
  go_enter Tryd.func26, Tryd.ntmps26
  go_wp2_with fail
  refine (ip6_within.calls cl 255 false _ A1).mono ?_
  rintro e w2 ⟨rfl, ⟨nd1, rfl⟩⟩
  clear A1
  go_wp2_with fail
  go_ret2
  exact ⟨rfl, pw_below_drewN HBW.out _⟩
 have A1 := Aside0.mk (ip6_within.yes h1)
 by_cases h2 : 0 ≤ nx ∧ nx ≤ 255
 case neg =>
  have A2 := Aside0.mk (ip6_within.no h2)
  clear h1 h2 hbad
  go_enter Tryd.func26, Tryd.ntmps26
  go_wp2_with fail
  refine (ip6_within.calls cl 255 true _ A1.out).mono ?_
  rintro e w2 ⟨rfl, ⟨nd1, rfl⟩⟩
  go_wp2_with fail
  refine (ip6_within.calls nx 255 false _ A2.out).mono ?_
  rintro e w2 ⟨rfl, ⟨nd2, rfl⟩⟩
  go_wp2_with fail
  go_ret2
  exact ⟨rfl, pw_below_drewN HBW.out _⟩
 have A2 := Aside0.mk (ip6_within.yes h2)
 by_cases h3 : 0 ≤ hp ∧ hp ≤ 255
 case neg =>
  have A3 := Aside0.mk (ip6_within.no h3)
  clear h1 h2 h3 hbad
  go_enter Tryd.func26, Tryd.ntmps26
  go_wp2_with fail
  refine (ip6_within.calls cl 255 true _ A1.out).mono ?_
  rintro e w2 ⟨rfl, ⟨nd1, rfl⟩⟩
  go_wp2_with fail
  refine (ip6_within.calls nx 255 true _ A2.out).mono ?_
  rintro e w2 ⟨rfl, ⟨nd2, rfl⟩⟩
  go_wp2_with fail
  refine (ip6_within.calls hp 255 false _ A3.out).mono ?_
  rintro e w2 ⟨rfl, ⟨nd3, rfl⟩⟩
  go_wp2_with fail
  go_ret2
  exact ⟨rfl, pw_below_drewN HBW.out _⟩
 have A3 := Aside0.mk (ip6_within.yes h3)
 by_cases h4 : 0 ≤ fl ∧ fl ≤ 1048575
 case neg =>
  have A4 := Aside0.mk (ip6_within.no h4)
  clear h1 h2 h3 h4 hbad
  go_enter Tryd.func26, Tryd.ntmps26
  go_wp2_with fail
  refine (ip6_within.calls cl 255 true _ A1.out).mono ?_
  rintro e w2 ⟨rfl, ⟨nd1, rfl⟩⟩
  go_wp2_with fail
  refine (ip6_within.calls nx 255 true _ A2.out).mono ?_
  rintro e w2 ⟨rfl, ⟨nd2, rfl⟩⟩
  go_wp2_with fail
  refine (ip6_within.calls hp 255 true _ A3.out).mono ?_
  rintro e w2 ⟨rfl, ⟨nd3, rfl⟩⟩
  go_wp2_with fail
  refine (ip6_within.calls fl 1048575 false _ A4.out).mono ?_
  rintro e w2 ⟨rfl, ⟨nd4, rfl⟩⟩
  go_wp2_with fail
  go_ret2
  exact ⟨rfl, pw_below_drewN HBW.out _⟩
 have A4 := Aside0.mk (ip6_within.yes h4)
 have h5 : s1 = false ∨ (s1 = true ∧ s2 = false) := by
  cases s1 with
  | false => exact .inl rfl
  | true => cases s2 with
   | false => exact .inr ⟨rfl, rfl⟩
   | true => exact absurd ⟨h1, h2, h3, h4, rfl, rfl⟩ hbad
 clear h1 h2 h3 h4 hbad
 rcases h5 with rfl | ⟨rfl, rfl⟩
 all_goals
  go_enter Tryd.func26, Tryd.ntmps26
  go_wp2_with fail
  refine (ip6_within.calls cl 255 true _ A1.out).mono ?_
  rintro e w2 ⟨rfl, ⟨nd1, rfl⟩⟩
  go_wp2_with fail
  refine (ip6_within.calls nx 255 true _ A2.out).mono ?_
  rintro e w2 ⟨rfl, ⟨nd2, rfl⟩⟩
  go_wp2_with fail
  refine (ip6_within.calls hp 255 true _ A3.out).mono ?_
  rintro e w2 ⟨rfl, ⟨nd3, rfl⟩⟩
  go_wp2_with fail
  refine (ip6_within.calls fl 1048575 true _ A4.out).mono ?_
  rintro e w2 ⟨rfl, ⟨nd4, rfl⟩⟩
  go_wp2_with fail
  go_ret2
  exact ⟨rfl, pw_below_drewN HBW.out _⟩
set_option maxHeartbeats 4000000 in
set_option maxRecDepth 100000 in
theorem ip6_Lay.long (cl fl nx hp fh flo th tlo : Int) (data : ByteArray) (w : World) (h1 : 0 ≤ cl ∧ cl ≤ 255) (h2 : 0 ≤ nx ∧ nx ≤ 255) (h3 : 0 ≤ hp ∧ hp ≤ 255) (h4 : 0 ≤ fl ∧ fl ≤ 1048575) (hs : 65535 < (data.size : Int)) :
  Calls Tryd.prog 26 #[.agg #[.int .i64 cl, .int .i64 fl, .int .i64 nx, .int .i64 hp, .bool true, .int .u64 fh, .int .u64 flo, .bool true, .int .u64 th, .int .u64 tlo, .string data]] w fun e w' => e = .returned (.tuple #[.string ⟨#[]⟩, .int .i64 62]) ∧ Below w.heap.size w w' := by
 have HBW := Aside0.mk (below_alloc (Below.refl w.heap.size w) (.cells #[.int .i64 cl, .int .i64 fl, .int .i64 nx, .int .i64 hp, .bool true, .int .u64 fh, .int .u64 flo, .bool true, .int .u64 th, .int .u64 tlo, .string data] 45))
 have hu26 := Tryd.underlying45
 have hu24 := Tryd.underlying28
 have A1 := Aside0.mk (ip6_within.yes h1)
 have A2 := Aside0.mk (ip6_within.yes h2)
 have A3 := Aside0.mk (ip6_within.yes h3)
 have A4 := Aside0.mk (ip6_within.yes h4)
 clear h1 h2 h3 h4
 go_enter Tryd.func26, Tryd.ntmps26
 go_wp2_with fail
 refine (ip6_within.calls cl 255 true _ A1.out).mono ?_
 rintro e w2 ⟨rfl, ⟨nd1, rfl⟩⟩
 go_wp2_with fail
 refine (ip6_within.calls nx 255 true _ A2.out).mono ?_
 rintro e w2 ⟨rfl, ⟨nd2, rfl⟩⟩
 go_wp2_with fail
 refine (ip6_within.calls hp 255 true _ A3.out).mono ?_
 rintro e w2 ⟨rfl, ⟨nd3, rfl⟩⟩
 go_wp2_with fail
 refine (ip6_within.calls fl 1048575 true _ A4.out).mono ?_
 rintro e w2 ⟨rfl, ⟨nd4, rfl⟩⟩
 go_wp2_with fail
 go_ret2
 exact ⟨rfl, pw_below_drewN HBW.out _⟩
def ip6_Lay.f (a0_0 a0_1 a0_2 a0_3 : Int) (a0_4 : Bool) (a0_5 a0_6 : Int) (a0_7 : Bool) (a0_8 a0_9 : Int) (a0_10 : ByteArray) : Option (ByteArray × Int) :=
 if (0 ≤ a0_0 ∧ a0_0 ≤ 255) ∧ (0 ≤ a0_2 ∧ a0_2 ≤ 255) ∧ (0 ≤ a0_3 ∧ a0_3 ≤ 255) ∧ (0 ≤ a0_1 ∧ a0_1 ≤ 1048575) ∧ a0_4 = true ∧ a0_7 = true then
  (if 65535 < (a0_10.size : Int) then some (⟨#[]⟩, 62) else some (strOfNums (ip6_Lay.of a0_0 a0_1 a0_2 a0_3 a0_5 a0_6 a0_8 a0_9 a0_10), 0))
 else some (⟨#[]⟩, 60)
theorem ip6_Lay.calls (a0_0 a0_1 a0_2 a0_3 : Int) (a0_4 : Bool) (a0_5 a0_6 : Int) (a0_7 : Bool) (a0_8 a0_9 : Int) (a0_10 : ByteArray) (r1 : ByteArray) (r2 : Int) (w : World) (h : ip6_Lay.f a0_0 a0_1 a0_2 a0_3 a0_4 a0_5 a0_6 a0_7 a0_8 a0_9 a0_10 = some (r1, r2)) :
  Calls Tryd.prog 26 #[.agg #[.int .i64 a0_0, .int .i64 a0_1, .int .i64 a0_2, .int .i64 a0_3, .bool a0_4, .int .u64 a0_5, .int .u64 a0_6, .bool a0_7, .int .u64 a0_8, .int .u64 a0_9, .string a0_10]] w fun e w' => e = .returned (.tuple #[.string r1, .int .i64 r2]) ∧ Below w.heap.size w w' := by
 unfold ip6_Lay.f at h
 split at h
 · rename_i hm
   obtain ⟨h1, h2, h3, h4, rfl, rfl⟩ := hm
   split at h
   · injection h with h; injection h with e1 e2; subst e1 e2
     rename_i hl
     exact ip6_Lay.long _ _ _ _ _ _ _ _ _ w h1 h2 h3 h4 hl
   · injection h with h; injection h with e1 e2; subst e1 e2
     rename_i hl
     exact ip6_Lay.good _ _ _ _ _ _ _ _ _ w h1 h2 h3 h4 (by omega)
 · injection h with h; injection h with e1 e2; subst e1 e2
   rename_i hm
   exact ip6_Lay.bad _ _ _ _ _ _ _ _ _ _ _ w hm

end Go.Proofs.YtaoopneiglgnkaaDoor.PBase
