/- Functions of the program as Lean functions, each with a proof that a call comes to what it says. Conditions: those of each theorem. Laid by a program of this session. -/
import Derived.Test.YtaoopneiglgnkaaDoorPBasex0
import Derived.Test.YtaoopneiglgnkaaDoorPBasex2
import Derived.Test.YtaoopneiglgnkaaDoorPBasex3
import Derived.Test.YtaoopneiglgnkaaDoorPBasex4
namespace Go.Proofs.YtaoopneiglgnkaaDoor.PBase
open Go.RowKit Go.Proofs.YtaoopneiglgnkaaDoor Go.Proofs.YtaoopneiglgnkaaDoorW.PrintWords Go.Proofs.YtaoopneiglgnkaaDoorW.PrintLast Go.Proofs.YtaoopneiglgnkaaDoorW.PrintMore
attribute [local go_sem] max2_int min2_int max_two min_two max_three min_three max_four min_four   -- for this text's walks alone
set_option linter.unusedVariables false
set_option linter.unusedSimpArgs false

/-! ### icmp_Take: function 19 (by hand) -/
def icmp_Take.f (k : Nat) (s : ByteArray) (six : Bool) (a2_0 : Bool) (a2_1 a2_2 : Int) (a3_0 : Bool) (a3_1 a3_2 : Int) : Option (Bool × Int × Int × Int × ByteArray × Int) :=
 if six = true ∧ (a2_0 && a3_0) = false then some (false, 0, 0, 0, ⟨#[]⟩, 70) else
 if s.size < 8 then some (false, 0, 0, 0, ⟨#[]⟩, 71) else
 if 140737488355200 < s.size then none else
 (icmp_Lay.side k six a2_0 a2_1 a2_2 a3_0 a3_1 a3_2 (s.size : Int)).bind fun p =>
 (tally_Sum.f k [bytesOf s]).bind fun t => (tally_Add.f p t).bind fun c =>
 if c ≠ 65535 then some (false, 0, 0, 0, ⟨#[]⟩, 72) else
 if 65008 < s.size then some (false, 0, 0, 0, ⟨#[]⟩, 70) else
 (octet_Get.f k (bytesOf (s.extract 0 8)) 4 4).bind fun n =>
 some (six, bt s 0, bt s 1, wrap64 n.1, s.extract 8 s.size, 0)
set_option maxHeartbeats 1000000 in
set_option maxRecDepth 100000 in
theorem icmp_Take.four (k : Nat) (s : ByteArray) (b1 : Bool) (h1 l1 : Int) (b2 : Bool) (h2 l2 : Int) (r : Bool × Int × Int × Int × ByteArray × Int) (w : World) (h : icmp_Take.f k s false b1 h1 l1 b2 h2 l2 = some r) :
  Calls Tryd.prog 19 #[.string s, .bool false, .agg #[.bool b1, .int .u64 h1, .int .u64 l1], .agg #[.bool b2, .int .u64 h2, .int .u64 l2]] w fun e w' => e = .returned (.tuple #[.agg #[.bool r.1, .int .i64 r.2.1, .int .i64 r.2.2.1, .int .i64 r.2.2.2.1, .string r.2.2.2.2.1], .int .i64 r.2.2.2.2.2]) ∧ Below w.heap.size w w' := by
 unfold icmp_Take.f at h
 rw [if_neg (by simp)] at h
 have H := Aside0.mk h
 clear h
 have HB := Aside0.mk (Below.refl w.heap.size w)
 have hu23 := Tryd.underlying43
 have hu26 := Tryd.underlying28
 have kb := fun s W => print_bytes (P := Tryd.prog) 9 70 5 Tryd.underlying9 Tryd.underlying70 Tryd.underlying5 s W
 go_enter Tryd.func19, Tryd.ntmps19
 go_wp2_with fail
 refine (icmp_of.calls false 0 0 0 ⟨#[]⟩ b1 h1 l1 b2 h2 l2 _).mono ?_
 rintro e w2 ⟨rfl, hb⟩
 replace HB := Aside0.mk (show Below w.heap.size w w2 from below_step (by go_grown) hb)
 have HBK := Aside0.mk (MStr.block_below (MStr.alloc3_new _ _ _ _) hb)
 clear hb
 rw [if_neg (by decide)]
 go_wp2_with fail
 refine (icmp_four_ends.calls _ _).mono ?_
 rintro e w3 ⟨rfl, hb⟩
 replace HB := sh_S HB hb
 replace HBK := Aside0.mk (MStr.block_below HBK.out hb)
 obtain ⟨⟨x0, x1, x2, x3, x4⟩, f0, f1, f2, f3, f4⟩ := MStr.block5 HBK.out
 clear hb
 by_cases hs8 : (s.size : Int) < 8
 · have h := H.out
   rw [if_pos (by omega)] at h
   obtain rfl := Option.some.inj h
   clear h H
   go_wp2_with fail
   refine bodyPost_ret (results_ct rfl _ _ _ 43 #[.bool false, .int .i64 0, .int .i64 0, .int .i64 0, .string ⟨#[]⟩] (0, 0) _ rfl (MStr.put5 HBK.out _ _ _ _ _) Tryd.underlying43 rfl (by kernel_rfl)) rfl ?_
   exact ⟨rfl, MStr.put5_below HB.out (by omega) _ _ _ _ _⟩
 · have h := H.out
   rw [if_neg (by omega)] at h
   by_cases hbig : 140737488355200 < s.size
   · rw [if_pos hbig] at h; cases h
   rw [if_neg hbig] at h
   clear H
   obtain ⟨p, hp, h0⟩ := Option.bind_eq_some_iff.1 h
   clear h
   obtain ⟨t, ht, h⟩ := Option.bind_eq_some_iff.1 h0
   clear h0
   obtain ⟨c, hc, h0⟩ := Option.bind_eq_some_iff.1 h
   clear h
   obtain rfl : (0 : Int) = p := Option.some.inj hp
   have HT := Aside0.mk ht; have HC := Aside0.mk hc; have H := Aside0.mk h0; have HSZ := Aside0.mk hbig
   clear hp ht hc h0 hbig x0 x1 x2 x3 x4 f0 f1 f2 f3 f4
   go_wp2_with fail
   refine (icmp_four_beside.calls _ _ _).mono ?_
   rintro e w6 ⟨rfl, hb⟩
   replace HB := sh_S HB hb
   replace HBK := Aside0.mk (MStr.block_below HBK.out hb)
   clear hb
   go_wp2_with fail
   refine (tally_Sum.calls k (some _) 1 [bytesOf s] t _ (MStr.C_varN (MStr.C_bytes w6 5 s (by have := HSZ.out; omega)) (grownCap_ge _ _ _ _) rfl) (Nat.le_refl _) HT.out).mono ?_
   rintro e w7 ⟨rfl, ⟨nd, rfl⟩⟩
   go_wp2_with fail
   refine (tally_Add.calls 0 t c _ HC.out).mono ?_
   rintro e w8 ⟨rfl, ⟨nd8, rfl⟩⟩
   generalize hW : (((Lib.bytesWorld w6 5 s).alloc (Obj.cells #[Value.slice (some ⟨w6.heap.size, 0, none⟩) s.size (grownCap w6 s.size 0 5)] 70)).drewN nd).drewN nd8 = W9
   have hb9 : Below w6.heap.size w6 W9 := by
    rw [← hW]; exact pw_below_drewN (pw_below_drewN (below_alloc (bytes_below (Below.refl _ _) (Nat.le_refl _) 5 s) _) _) _
   replace HB := Aside0.mk (below_step HB.out hb9)
   replace HBK := Aside0.mk (MStr.block_below HBK.out hb9)
   clear hW hb9
   obtain ⟨⟨x0, x1, x2, x3, x4⟩, f0, f1, f2, f3, f4⟩ := MStr.block5 HBK.out
   by_cases hc5 : c = 65535
   · have h := H.out
     rw [if_neg (by simpa using hc5)] at h
     clear H
     have hcc : ¬ c ≠ 65535 := by simpa using hc5
     by_cases hs9 : (65008 : Int) < (s.size : Int)
     · rw [if_pos (by omega)] at h
       obtain rfl := Option.some.inj h
       clear h
       go_wp2_with fail
       refine bodyPost_ret (results_ct rfl _ _ _ 43 #[.bool false, .int .i64 0, .int .i64 0, .int .i64 0, .string ⟨#[]⟩] (0, 0) _ rfl (MStr.put5 HBK.out _ _ _ _ _) Tryd.underlying43 rfl (by kernel_rfl)) rfl ?_
       exact ⟨rfl, MStr.put5_below HB.out (by omega) _ _ _ _ _⟩
     · rw [if_neg (by omega)] at h
       obtain ⟨n, hn, h0⟩ := Option.bind_eq_some_iff.1 h
       clear h
       obtain ⟨n1, n2⟩ := n
       obtain rfl := Option.some.inj h0
       clear h0
       have HN := Aside0.mk hn
       clear hn
       have hmin8 : min 8 s.size = 8 := by omega
       go_wp2_with fail
       have hC8 := MStr.C_bytes W9 5 (s.extract 0 8) (by simp; omega)
       obtain ⟨L, hL⟩ : ∃ L, bytesOf (s.extract 0 8) = L := ⟨_, rfl⟩
       have hn8 : L.length = 8 := by rw [← hL, bytesOf_length]; simp; omega
       have e8 : (s.extract 0 8).size = 8 := by simp; omega
       rw [hL, e8] at hC8
       have hcall := octet_Get.calls k (some ⟨W9.heap.size, 0, none⟩) (grownCap W9 8 0 5) L 4 4 n1 n2 (Lib.bytesWorld W9 5 (s.extract 0 8)) (by rw [hn8]; exact hC8) (by rw [hn8]; exact grownCap_ge _ _ _ _) (by rw [← hL]; exact HN.out)
       rw [hn8] at hcall
       clear hn8 e8 hC8
       refine hcall.mono ?_
       rintro e w10 ⟨rfl, ⟨nd10, rfl⟩⟩
       clear hcall
       generalize hW2 : (Lib.bytesWorld W9 5 (s.extract 0 8)).drewN nd10 = W11
       have hb11 : Below W9.heap.size W9 W11 := by
        rw [← hW2]; exact pw_below_drewN (bytes_below (Below.refl _ _) (Nat.le_refl _) 5 _) _
       replace HB := Aside0.mk (below_step HB.out hb11)
       replace HBK := Aside0.mk (MStr.block_below HBK.out hb11)
       clear hW2 hb11 x0 x1 x2 x3 x4 f0 f1 f2 f3 f4
       obtain ⟨⟨x0, x1, x2, x3, x4⟩, f0, f1, f2, f3, f4⟩ := MStr.block5 HBK.out
       go_wp2_with fail
       have hx0 : ∀ h : 0 < s.size, ((s[0]'h).toNat : Int) = bt s 0 := bt_at s 0
       have hx1 : ∀ h : 1 < s.size, ((s[1]'h).toNat : Int) = bt s 1 := bt_at s 1
       have hq0 : 0 < s.size := by omega
       have hq1 : 1 < s.size := by omega
       have hi0 : ((0 : Int) < (s.size : Int)) = True := eq_true (by omega)
       have hi1 : ((1 : Int) < (s.size : Int)) = True := eq_true (by omega)
       have hi8 : ((8 : Int) ≤ (s.size : Int)) = True := eq_true (by omega)
       have hw0 : wrap64 (bt s 0) = bt s 0 := by have := bt_range s 0; unfold wrap64; omega
       have hw1 : wrap64 (bt s 1) = bt s 1 := by have := bt_range s 1; unfold wrap64; omega
       go_still_tail 12, (by kernel_rfl)
       all_goals
        change wpList _ _ _ _ _ W11.drew
        go_wp2_with fail
        have HG := Aside0.mk (show w.heap.size ≤ w.heap.size + 1 + 1 by omega)
        refine bodyPost_ret (results_ct rfl _ _ _ 43 #[.bool false, .int .i64 (bt s 0), .int .i64 (bt s 1), .int .i64 (wrap64 n1), .string (s.extract 8 s.size)] (0, 0) _ rfl (by (with_reducible repeat (first | refine blk_drewN ?_ _ | refine blk_drew ?_ | refine blk_alloc ?_ _)); refine blk_put (cs := #[.bool false, .int .i64 (bt s 0), .int .i64 (bt s 1), .int .i64 (wrap64 n1), .string (⟨#[]⟩ : ByteArray)]) ?_ 4 _ rfl; (with_reducible repeat (first | refine blk_drewN ?_ _ | refine blk_drew ?_ | refine blk_alloc ?_ _)); refine blk_put (cs := #[.bool false, .int .i64 (bt s 0), .int .i64 (bt s 1), .int .i64 0, .string (⟨#[]⟩ : ByteArray)]) ?_ 3 _ rfl; (with_reducible repeat (first | refine blk_drewN ?_ _ | refine blk_drew ?_ | refine blk_alloc ?_ _)); refine blk_put (cs := #[.bool false, .int .i64 (bt s 0), .int .i64 0, .int .i64 0, .string (⟨#[]⟩ : ByteArray)]) ?_ 2 _ rfl; (with_reducible repeat (first | refine blk_drewN ?_ _ | refine blk_drew ?_ | refine blk_alloc ?_ _)); refine blk_put (cs := #[.bool false, .int .i64 0, .int .i64 0, .int .i64 0, .string (⟨#[]⟩ : ByteArray)]) ?_ 1 _ rfl; (with_reducible repeat (first | refine blk_drewN ?_ _ | refine blk_drew ?_ | refine blk_alloc ?_ _)); refine blk_put (cs := #[.bool false, .int .i64 0, .int .i64 0, .int .i64 0, .string (⟨#[]⟩ : ByteArray)]) ?_ 0 _ rfl; (with_reducible repeat (first | refine blk_drewN ?_ _ | refine blk_drew ?_ | refine blk_alloc ?_ _)); exact HBK.out) Tryd.underlying43 rfl (by kernel_rfl)) rfl ?_
        exact ⟨rfl, by repeat (first | (with_reducible first | exact HB.out | apply below_alloc | apply pw_below_drewN | apply below_drew1 | refine below_set ?_ HG.out) | exact HB.out)⟩
   · have h := H.out
     rw [if_pos hc5] at h
     obtain rfl := Option.some.inj h
     clear h H
     go_wp2_with fail
     refine bodyPost_ret (results_ct rfl _ _ _ 43 #[.bool false, .int .i64 0, .int .i64 0, .int .i64 0, .string ⟨#[]⟩] (0, 0) _ rfl (MStr.put5 HBK.out _ _ _ _ _) Tryd.underlying43 rfl (by kernel_rfl)) rfl ?_
     exact ⟨rfl, MStr.put5_below HB.out (by omega) _ _ _ _ _⟩
set_option maxHeartbeats 1000000 in
set_option maxRecDepth 100000 in
theorem icmp_Take.six (k : Nat) (s : ByteArray) (b1 : Bool) (h1 l1 : Int) (b2 : Bool) (h2 l2 : Int) (r : Bool × Int × Int × Int × ByteArray × Int) (w : World) (h : icmp_Take.f k s true b1 h1 l1 b2 h2 l2 = some r) :
  Calls Tryd.prog 19 #[.string s, .bool true, .agg #[.bool b1, .int .u64 h1, .int .u64 l1], .agg #[.bool b2, .int .u64 h2, .int .u64 l2]] w fun e w' => e = .returned (.tuple #[.agg #[.bool r.1, .int .i64 r.2.1, .int .i64 r.2.2.1, .int .i64 r.2.2.2.1, .string r.2.2.2.2.1], .int .i64 r.2.2.2.2.2]) ∧ Below w.heap.size w w' := by
 unfold icmp_Take.f at h
 by_cases hbb : (b1 && b2) = false
 · rw [if_pos ⟨rfl, hbb⟩] at h
   obtain rfl := Option.some.inj h
   clear h
   have HB := Aside0.mk (Below.refl w.heap.size w)
   have hu23 := Tryd.underlying43
   have hu26 := Tryd.underlying28
   go_enter Tryd.func19, Tryd.ntmps19
   go_wp2_with fail
   refine (icmp_of.calls true 0 0 0 ⟨#[]⟩ b1 h1 l1 b2 h2 l2 _).mono ?_
   rintro e w2 ⟨rfl, hb⟩
   replace HB := Aside0.mk (show Below w.heap.size w w2 from below_step (by go_grown) hb)
   have HBK := Aside0.mk (MStr.block_below (MStr.alloc3_new _ _ _ _) hb)
   clear hb
   rw [if_pos rfl]
   go_wp2_with fail
   refine (icmp_six_ends.calls true 0 0 0 ⟨#[]⟩ b1 h1 l1 b2 h2 l2 _).mono ?_
   rintro e w3 ⟨rfl, hb⟩
   replace HB := sh_S HB hb
   replace HBK := Aside0.mk (MStr.block_below HBK.out hb)
   obtain ⟨⟨x0, x1, x2, x3, x4⟩, f0, f1, f2, f3, f4⟩ := MStr.block5 HBK.out
   clear hb
   rw [hbb]
   go_wp2_with fail
   refine bodyPost_ret (results_ct rfl _ _ _ 43 #[.bool false, .int .i64 0, .int .i64 0, .int .i64 0, .string ⟨#[]⟩] (0, 0) _ rfl (MStr.put5 HBK.out _ _ _ _ _) Tryd.underlying43 rfl (by kernel_rfl)) rfl ?_
   exact ⟨rfl, MStr.put5_below HB.out (by omega) _ _ _ _ _⟩
 rw [if_neg (fun q => hbb q.2)] at h
 replace hbb : (b1 && b2) = true := by simpa using hbb
 have H := Aside0.mk h
 clear h
 have HB := Aside0.mk (Below.refl w.heap.size w)
 have hu23 := Tryd.underlying43
 have hu26 := Tryd.underlying28
 have kb := fun s W => print_bytes (P := Tryd.prog) 9 70 5 Tryd.underlying9 Tryd.underlying70 Tryd.underlying5 s W
 go_enter Tryd.func19, Tryd.ntmps19
 go_wp2_with fail
 refine (icmp_of.calls true 0 0 0 ⟨#[]⟩ b1 h1 l1 b2 h2 l2 _).mono ?_
 rintro e w2 ⟨rfl, hb⟩
 replace HB := Aside0.mk (show Below w.heap.size w w2 from below_step (by go_grown) hb)
 have HBK := Aside0.mk (MStr.block_below (MStr.alloc3_new _ _ _ _) hb)
 clear hb
 rw [if_pos rfl]
 go_wp2_with fail
 refine (icmp_six_ends.calls true 0 0 0 ⟨#[]⟩ b1 h1 l1 b2 h2 l2 _).mono ?_
 rintro e w3 ⟨rfl, hb⟩
 rw [hbb]
 replace HB := sh_S HB hb
 replace HBK := Aside0.mk (MStr.block_below HBK.out hb)
 obtain ⟨⟨x0, x1, x2, x3, x4⟩, f0, f1, f2, f3, f4⟩ := MStr.block5 HBK.out
 clear hb
 by_cases hs8 : (s.size : Int) < 8
 · have h := H.out
   rw [if_pos (by omega)] at h
   obtain rfl := Option.some.inj h
   clear h H
   go_wp2_with fail
   refine bodyPost_ret (results_ct rfl _ _ _ 43 #[.bool false, .int .i64 0, .int .i64 0, .int .i64 0, .string ⟨#[]⟩] (0, 0) _ rfl (MStr.put5 HBK.out _ _ _ _ _) Tryd.underlying43 rfl (by kernel_rfl)) rfl ?_
   exact ⟨rfl, MStr.put5_below HB.out (by omega) _ _ _ _ _⟩
 · have h := H.out
   rw [if_neg (by omega)] at h
   by_cases hbig : 140737488355200 < s.size
   · rw [if_pos hbig] at h; cases h
   rw [if_neg hbig] at h
   clear H
   obtain ⟨p, hp, h0⟩ := Option.bind_eq_some_iff.1 h
   clear h
   obtain ⟨t, ht, h⟩ := Option.bind_eq_some_iff.1 h0
   clear h0
   obtain ⟨c, hc, h0⟩ := Option.bind_eq_some_iff.1 h
   clear h
   have hp : tally_Pseudo.f k b1 h1 l1 b2 h2 l2 (s.size : Int) 58 = some p := hp
   have HP := Aside0.mk hp
   have HT := Aside0.mk ht; have HC := Aside0.mk hc; have H := Aside0.mk h0; have HSZ := Aside0.mk hbig
   clear hp ht hc h0 hbig x0 x1 x2 x3 x4 f0 f1 f2 f3 f4
   go_wp2_with fail
   refine (icmp_six_beside.calls k true 0 0 0 ⟨#[]⟩ b1 h1 l1 b2 h2 l2 _ p _ HP.out).mono ?_
   rintro e w6 ⟨rfl, hb⟩
   replace HB := sh_S HB hb
   replace HBK := Aside0.mk (MStr.block_below HBK.out hb)
   clear hb
   go_wp2_with fail
   refine (tally_Sum.calls k (some _) 1 [bytesOf s] t _ (MStr.C_varN (MStr.C_bytes w6 5 s (by have := HSZ.out; omega)) (grownCap_ge _ _ _ _) rfl) (Nat.le_refl _) HT.out).mono ?_
   rintro e w7 ⟨rfl, ⟨nd, rfl⟩⟩
   go_wp2_with fail
   refine (tally_Add.calls p t c _ HC.out).mono ?_
   rintro e w8 ⟨rfl, ⟨nd8, rfl⟩⟩
   generalize hW : (((Lib.bytesWorld w6 5 s).alloc (Obj.cells #[Value.slice (some ⟨w6.heap.size, 0, none⟩) s.size (grownCap w6 s.size 0 5)] 70)).drewN nd).drewN nd8 = W9
   have hb9 : Below w6.heap.size w6 W9 := by
    rw [← hW]; exact pw_below_drewN (pw_below_drewN (below_alloc (bytes_below (Below.refl _ _) (Nat.le_refl _) 5 s) _) _) _
   replace HB := Aside0.mk (below_step HB.out hb9)
   replace HBK := Aside0.mk (MStr.block_below HBK.out hb9)
   clear hW hb9
   obtain ⟨⟨x0, x1, x2, x3, x4⟩, f0, f1, f2, f3, f4⟩ := MStr.block5 HBK.out
   by_cases hc5 : c = 65535
   · have h := H.out
     rw [if_neg (by simpa using hc5)] at h
     clear H
     have hcc : ¬ c ≠ 65535 := by simpa using hc5
     by_cases hs9 : (65008 : Int) < (s.size : Int)
     · rw [if_pos (by omega)] at h
       obtain rfl := Option.some.inj h
       clear h
       go_wp2_with fail
       refine bodyPost_ret (results_ct rfl _ _ _ 43 #[.bool false, .int .i64 0, .int .i64 0, .int .i64 0, .string ⟨#[]⟩] (0, 0) _ rfl (MStr.put5 HBK.out _ _ _ _ _) Tryd.underlying43 rfl (by kernel_rfl)) rfl ?_
       exact ⟨rfl, MStr.put5_below HB.out (by omega) _ _ _ _ _⟩
     · rw [if_neg (by omega)] at h
       obtain ⟨n, hn, h0⟩ := Option.bind_eq_some_iff.1 h
       clear h
       obtain ⟨n1, n2⟩ := n
       obtain rfl := Option.some.inj h0
       clear h0
       have HN := Aside0.mk hn
       clear hn
       have hmin8 : min 8 s.size = 8 := by omega
       go_wp2_with fail
       have hC8 := MStr.C_bytes W9 5 (s.extract 0 8) (by simp; omega)
       obtain ⟨L, hL⟩ : ∃ L, bytesOf (s.extract 0 8) = L := ⟨_, rfl⟩
       have hn8 : L.length = 8 := by rw [← hL, bytesOf_length]; simp; omega
       have e8 : (s.extract 0 8).size = 8 := by simp; omega
       rw [hL, e8] at hC8
       have hcall := octet_Get.calls k (some ⟨W9.heap.size, 0, none⟩) (grownCap W9 8 0 5) L 4 4 n1 n2 (Lib.bytesWorld W9 5 (s.extract 0 8)) (by rw [hn8]; exact hC8) (by rw [hn8]; exact grownCap_ge _ _ _ _) (by rw [← hL]; exact HN.out)
       rw [hn8] at hcall
       clear hn8 e8 hC8
       refine hcall.mono ?_
       rintro e w10 ⟨rfl, ⟨nd10, rfl⟩⟩
       clear hcall
       generalize hW2 : (Lib.bytesWorld W9 5 (s.extract 0 8)).drewN nd10 = W11
       have hb11 : Below W9.heap.size W9 W11 := by
        rw [← hW2]; exact pw_below_drewN (bytes_below (Below.refl _ _) (Nat.le_refl _) 5 _) _
       replace HB := Aside0.mk (below_step HB.out hb11)
       replace HBK := Aside0.mk (MStr.block_below HBK.out hb11)
       clear hW2 hb11 x0 x1 x2 x3 x4 f0 f1 f2 f3 f4
       obtain ⟨⟨x0, x1, x2, x3, x4⟩, f0, f1, f2, f3, f4⟩ := MStr.block5 HBK.out
       go_wp2_with fail
       have hx0 : ∀ h : 0 < s.size, ((s[0]'h).toNat : Int) = bt s 0 := bt_at s 0
       have hx1 : ∀ h : 1 < s.size, ((s[1]'h).toNat : Int) = bt s 1 := bt_at s 1
       have hq0 : 0 < s.size := by omega
       have hq1 : 1 < s.size := by omega
       have hi0 : ((0 : Int) < (s.size : Int)) = True := eq_true (by omega)
       have hi1 : ((1 : Int) < (s.size : Int)) = True := eq_true (by omega)
       have hi8 : ((8 : Int) ≤ (s.size : Int)) = True := eq_true (by omega)
       have hw0 : wrap64 (bt s 0) = bt s 0 := by have := bt_range s 0; unfold wrap64; omega
       have hw1 : wrap64 (bt s 1) = bt s 1 := by have := bt_range s 1; unfold wrap64; omega
       go_still_tail 12, (by kernel_rfl)
       all_goals
        change wpList _ _ _ _ _ W11.drew
        go_wp2_with fail
        have HG := Aside0.mk (show w.heap.size ≤ w.heap.size + 1 + 1 by omega)
        refine bodyPost_ret (results_ct rfl _ _ _ 43 #[.bool true, .int .i64 (bt s 0), .int .i64 (bt s 1), .int .i64 (wrap64 n1), .string (s.extract 8 s.size)] (0, 0) _ rfl (by (with_reducible repeat (first | refine blk_drewN ?_ _ | refine blk_drew ?_ | refine blk_alloc ?_ _)); refine blk_put (cs := #[.bool true, .int .i64 (bt s 0), .int .i64 (bt s 1), .int .i64 (wrap64 n1), .string (⟨#[]⟩ : ByteArray)]) ?_ 4 _ rfl; (with_reducible repeat (first | refine blk_drewN ?_ _ | refine blk_drew ?_ | refine blk_alloc ?_ _)); refine blk_put (cs := #[.bool true, .int .i64 (bt s 0), .int .i64 (bt s 1), .int .i64 0, .string (⟨#[]⟩ : ByteArray)]) ?_ 3 _ rfl; (with_reducible repeat (first | refine blk_drewN ?_ _ | refine blk_drew ?_ | refine blk_alloc ?_ _)); refine blk_put (cs := #[.bool true, .int .i64 (bt s 0), .int .i64 0, .int .i64 0, .string (⟨#[]⟩ : ByteArray)]) ?_ 2 _ rfl; (with_reducible repeat (first | refine blk_drewN ?_ _ | refine blk_drew ?_ | refine blk_alloc ?_ _)); refine blk_put (cs := #[.bool true, .int .i64 0, .int .i64 0, .int .i64 0, .string (⟨#[]⟩ : ByteArray)]) ?_ 1 _ rfl; (with_reducible repeat (first | refine blk_drewN ?_ _ | refine blk_drew ?_ | refine blk_alloc ?_ _)); refine blk_put (cs := #[.bool false, .int .i64 0, .int .i64 0, .int .i64 0, .string (⟨#[]⟩ : ByteArray)]) ?_ 0 _ rfl; (with_reducible repeat (first | refine blk_drewN ?_ _ | refine blk_drew ?_ | refine blk_alloc ?_ _)); exact HBK.out) Tryd.underlying43 rfl (by kernel_rfl)) rfl ?_
        exact ⟨rfl, by repeat (first | (with_reducible first | exact HB.out | apply below_alloc | apply pw_below_drewN | apply below_drew1 | refine below_set ?_ HG.out) | exact HB.out)⟩
   · have h := H.out
     rw [if_pos hc5] at h
     obtain rfl := Option.some.inj h
     clear h H
     go_wp2_with fail
     refine bodyPost_ret (results_ct rfl _ _ _ 43 #[.bool false, .int .i64 0, .int .i64 0, .int .i64 0, .string ⟨#[]⟩] (0, 0) _ rfl (MStr.put5 HBK.out _ _ _ _ _) Tryd.underlying43 rfl (by kernel_rfl)) rfl ?_
     exact ⟨rfl, MStr.put5_below HB.out (by omega) _ _ _ _ _⟩
theorem icmp_Take.mono : ∀ a0 a1 a2 a3 a4 a5 a6 a7 k, LeO (icmp_Take.f k a0 a1 a2 a3 a4 a5 a6 a7) (icmp_Take.f (k + 1) a0 a1 a2 a3 a4 a5 a6 a7) := by
 intro a0 a1 a2 a3 a4 a5 a6 a7 k
 unfold icmp_Take.f icmp_Lay.side
 repeat' first | (with_reducible exact tally_Sum.mono _ _) | (with_reducible exact octet_Get.mono _ _ _ _) | (with_reducible exact tally_Pseudo.mono _ _ _ _ _ _ _ _ _) | (with_reducible exact LeO.refl _) | (with_reducible exact LeO.none _) | (with_reducible refine LeO.ite ?_ ?_) | (with_reducible refine LeO.bind ?_ (fun _ => ?_))
theorem icmp_Take.calls (k : Nat) (a0 : ByteArray) (a1 : Bool) (a2_0 : Bool) (a2_1 : Int) (a2_2 : Int) (a3_0 : Bool) (a3_1 : Int) (a3_2 : Int) (r1 : Bool) (r2 : Int) (r3 : Int) (r4 : Int) (r5 : ByteArray) (r6 : Int) (w : World) (h : icmp_Take.f k a0 a1 a2_0 a2_1 a2_2 a3_0 a3_1 a3_2 = some (r1, r2, r3, r4, r5, r6)) :
  Calls Tryd.prog 19 #[.string a0, .bool a1, .agg #[.bool a2_0, .int .u64 a2_1, .int .u64 a2_2], .agg #[.bool a3_0, .int .u64 a3_1, .int .u64 a3_2]] w fun e w' => e = .returned (.tuple #[.agg #[.bool r1, .int .i64 r2, .int .i64 r3, .int .i64 r4, .string r5], .int .i64 r6]) ∧ Below w.heap.size w w' := by
 cases a1 with
 | false => exact icmp_Take.four k a0 a2_0 a2_1 a2_2 a3_0 a3_1 a3_2 (r1, r2, r3, r4, r5, r6) w h
 | true => exact icmp_Take.six k a0 a2_0 a2_1 a2_2 a3_0 a3_1 a3_2 (r1, r2, r3, r4, r5, r6) w h

/-! ### excuse_Kind: function 10 (by hand) -/
/-- The table of what is said lies in its variable. -/
def excuse_Glob (w : World) : Prop := w.var? Tryd.prog "crossway/excuse.table" = some #[.int .i64 11, .int .i64 0, .int .i64 3, .int .i64 0, .int .i64 3, .int .i64 0, .int .i64 1, .int .i64 0, .int .i64 3, .int .i64 1, .int .i64 1, .int .i64 3, .int .i64 3, .int .i64 4, .int .i64 2, .int .i64 0, .int .i64 3, .int .i64 13, .int .i64 1, .int .i64 1, .int .i64 12, .int .i64 0, .int .i64 4, .int .i64 0]
theorem excuse_Glob_below {w w' : World} (h : excuse_Glob w) (hb : Below w.heap.size w w') : excuse_Glob w' := by
 have hg : Tryd.prog.globalNamed "crossway/excuse.table" = some 0 := by kernel_rfl
 have h0 := h
 unfold excuse_Glob World.var? at h0
 simp only [hg, Option.bind_some] at h0
 have hlt : 0 < w.heap.size := by
  rcases Nat.eq_zero_or_pos w.heap.size with e | e
  · rw [Array.getElem?_eq_none (by omega)] at h0; cases h0
  · exact e
 exact var?_below hb hg hlt h
theorem excuse_Glob_cell {w : World} (h : excuse_Glob w) (i : Nat) : w.cell? ⟨0, i, none⟩ = (#[.int .i64 11, .int .i64 0, .int .i64 3, .int .i64 0, .int .i64 3, .int .i64 0, .int .i64 1, .int .i64 0, .int .i64 3, .int .i64 1, .int .i64 1, .int .i64 3, .int .i64 3, .int .i64 4, .int .i64 2, .int .i64 0, .int .i64 3, .int .i64 13, .int .i64 1, .int .i64 1, .int .i64 12, .int .i64 0, .int .i64 4, .int .i64 0] : Array Value)[i]? := World.var?_cell (show Tryd.prog.globalNamed "crossway/excuse.table" = some 0 by kernel_rfl) h i
/-- What is said of a why. -/
def excuse_Kind.e (why : Int) (six : Bool) : Int × Int × Bool := if six = true then (if why = 1 then (3, 0, true) else if why = 2 then (1, 0, true) else if why = 3 then (1, 3, true) else if why = 4 then (2, 0, true) else if why = 5 then (1, 1, true) else (4, 0, true)) else (if why = 1 then (11, 0, true) else if why = 2 then (3, 0, true) else if why = 3 then (3, 1, true) else if why = 4 then (3, 4, true) else if why = 5 then (3, 13, true) else (12, 0, true))
def excuse_Kind.f (why : Int) (six : Bool) : Option (Int × Int × Bool) := if why < 1 ∨ why > 6 then some (0, 0, false) else some (excuse_Kind.e why six)
set_option maxHeartbeats 2000000 in
set_option maxRecDepth 100000 in
theorem excuse_Kind.calls (a0 : Int) (a1 : Bool) (r1 r2 : Int) (r3 : Bool) (w : World) (h : excuse_Kind.f a0 a1 = some (r1, r2, r3)) (hg : excuse_Glob w) :
  Calls Tryd.prog 10 #[.int .i64 a0, .bool a1] w fun e w' => e = .returned (.tuple #[.int .i64 r1, .int .i64 r2, .bool r3]) ∧ Below w.heap.size w w' := by
 have HG := Aside0.mk hg
 clear hg
 unfold excuse_Kind.f at h
 have hu54 := Tryd.underlying54
 have hu55 := Tryd.underlying55
 by_cases h1 : a0 < 1
 · rw [if_pos (.inl h1)] at h
   cases h
   go_enter Tryd.func10, Tryd.ntmps10
   go_wp2_with fail
   go_ret3
   exact ⟨rfl, Below.refl _ _⟩
 by_cases h2 : a0 > 6
 · rw [if_pos (.inr h2)] at h
   cases h
   go_enter Tryd.func10, Tryd.ntmps10
   go_wp2_with fail
   go_ret3
   exact ⟨rfl, Below.refl _ _⟩
 rw [if_neg (by omega)] at h
 rcases (show a0 = 1 ∨ a0 = 2 ∨ a0 = 3 ∨ a0 = 4 ∨ a0 = 5 ∨ a0 = 6 by omega) with rfl | rfl | rfl | rfl | rfl | rfl
 · clear h1 h2
   have c0 : w.cell? ⟨0, 0, none⟩ = some (.int .i64 11) := excuse_Glob_cell HG.out 0
   have c1 : w.cell? ⟨0, 1, none⟩ = some (.int .i64 0) := excuse_Glob_cell HG.out 1
   have c2 : w.cell? ⟨0, 2, none⟩ = some (.int .i64 3) := excuse_Glob_cell HG.out 2
   have c3 : w.cell? ⟨0, 3, none⟩ = some (.int .i64 0) := excuse_Glob_cell HG.out 3
   cases a1 with
   | false =>
    cases h
    go_enter Tryd.func10, Tryd.ntmps10
    go_wp2_with fail
    go_region
    all_goals go_wp2_with fail
    go_ret3
    exact ⟨rfl, by go_grown⟩
   | true =>
    cases h
    go_enter Tryd.func10, Tryd.ntmps10
    go_wp2_with fail
    go_region
    all_goals go_wp2_with fail
    go_ret3
    exact ⟨rfl, by go_grown⟩
 · clear h1 h2
   have c0 : w.cell? ⟨0, 4, none⟩ = some (.int .i64 3) := excuse_Glob_cell HG.out 4
   have c1 : w.cell? ⟨0, 5, none⟩ = some (.int .i64 0) := excuse_Glob_cell HG.out 5
   have c2 : w.cell? ⟨0, 6, none⟩ = some (.int .i64 1) := excuse_Glob_cell HG.out 6
   have c3 : w.cell? ⟨0, 7, none⟩ = some (.int .i64 0) := excuse_Glob_cell HG.out 7
   cases a1 with
   | false =>
    cases h
    go_enter Tryd.func10, Tryd.ntmps10
    go_wp2_with fail
    go_region
    all_goals go_wp2_with fail
    go_ret3
    exact ⟨rfl, by go_grown⟩
   | true =>
    cases h
    go_enter Tryd.func10, Tryd.ntmps10
    go_wp2_with fail
    go_region
    all_goals go_wp2_with fail
    go_ret3
    exact ⟨rfl, by go_grown⟩
 · clear h1 h2
   have c0 : w.cell? ⟨0, 8, none⟩ = some (.int .i64 3) := excuse_Glob_cell HG.out 8
   have c1 : w.cell? ⟨0, 9, none⟩ = some (.int .i64 1) := excuse_Glob_cell HG.out 9
   have c2 : w.cell? ⟨0, 10, none⟩ = some (.int .i64 1) := excuse_Glob_cell HG.out 10
   have c3 : w.cell? ⟨0, 11, none⟩ = some (.int .i64 3) := excuse_Glob_cell HG.out 11
   cases a1 with
   | false =>
    cases h
    go_enter Tryd.func10, Tryd.ntmps10
    go_wp2_with fail
    go_region
    all_goals go_wp2_with fail
    go_ret3
    exact ⟨rfl, by go_grown⟩
   | true =>
    cases h
    go_enter Tryd.func10, Tryd.ntmps10
    go_wp2_with fail
    go_region
    all_goals go_wp2_with fail
    go_ret3
    exact ⟨rfl, by go_grown⟩
 · clear h1 h2
   have c0 : w.cell? ⟨0, 12, none⟩ = some (.int .i64 3) := excuse_Glob_cell HG.out 12
   have c1 : w.cell? ⟨0, 13, none⟩ = some (.int .i64 4) := excuse_Glob_cell HG.out 13
   have c2 : w.cell? ⟨0, 14, none⟩ = some (.int .i64 2) := excuse_Glob_cell HG.out 14
   have c3 : w.cell? ⟨0, 15, none⟩ = some (.int .i64 0) := excuse_Glob_cell HG.out 15
   cases a1 with
   | false =>
    cases h
    go_enter Tryd.func10, Tryd.ntmps10
    go_wp2_with fail
    go_region
    all_goals go_wp2_with fail
    go_ret3
    exact ⟨rfl, by go_grown⟩
   | true =>
    cases h
    go_enter Tryd.func10, Tryd.ntmps10
    go_wp2_with fail
    go_region
    all_goals go_wp2_with fail
    go_ret3
    exact ⟨rfl, by go_grown⟩
 · clear h1 h2
   have c0 : w.cell? ⟨0, 16, none⟩ = some (.int .i64 3) := excuse_Glob_cell HG.out 16
   have c1 : w.cell? ⟨0, 17, none⟩ = some (.int .i64 13) := excuse_Glob_cell HG.out 17
   have c2 : w.cell? ⟨0, 18, none⟩ = some (.int .i64 1) := excuse_Glob_cell HG.out 18
   have c3 : w.cell? ⟨0, 19, none⟩ = some (.int .i64 1) := excuse_Glob_cell HG.out 19
   cases a1 with
   | false =>
    cases h
    go_enter Tryd.func10, Tryd.ntmps10
    go_wp2_with fail
    go_region
    all_goals go_wp2_with fail
    go_ret3
    exact ⟨rfl, by go_grown⟩
   | true =>
    cases h
    go_enter Tryd.func10, Tryd.ntmps10
    go_wp2_with fail
    go_region
    all_goals go_wp2_with fail
    go_ret3
    exact ⟨rfl, by go_grown⟩
 · clear h1 h2
   have c0 : w.cell? ⟨0, 20, none⟩ = some (.int .i64 12) := excuse_Glob_cell HG.out 20
   have c1 : w.cell? ⟨0, 21, none⟩ = some (.int .i64 0) := excuse_Glob_cell HG.out 21
   have c2 : w.cell? ⟨0, 22, none⟩ = some (.int .i64 4) := excuse_Glob_cell HG.out 22
   have c3 : w.cell? ⟨0, 23, none⟩ = some (.int .i64 0) := excuse_Glob_cell HG.out 23
   cases a1 with
   | false =>
    cases h
    go_enter Tryd.func10, Tryd.ntmps10
    go_wp2_with fail
    go_region
    all_goals go_wp2_with fail
    go_ret3
    exact ⟨rfl, by go_grown⟩
   | true =>
    cases h
    go_enter Tryd.func10, Tryd.ntmps10
    go_wp2_with fail
    go_region
    all_goals go_wp2_with fail
    go_ret3
    exact ⟨rfl, by go_grown⟩

/-! ### excuse_isSix: function 22 -/
def excuse_isSix.f (a0 : ByteArray) : Option (Bool) := if a0.toList = ([] : List UInt8) then (some false) else (if 0 < (a0.size : Int) then (some (((bt a0 0) / 16) == 6)) else (none))
set_option maxHeartbeats 8000000 in
set_option maxRecDepth 100000 in
theorem excuse_isSix.calls (a0 : ByteArray) (r : Bool) (w : World) (h : excuse_isSix.f a0 = some r) :
  Calls Tryd.prog 22 #[.string a0] w fun e w' => e = .returned (.bool r) ∧ Drawn0 w w' := by
 have H : (if a0.toList = ([] : List UInt8) then (some false) else (if 0 < (a0.size : Int) then (some (((bt a0 0) / 16) == 6)) else (none))) = some r := h
 clear h
 by_cases c2 : a0.toList = ([] : List UInt8)
 ·
  rw [if_pos c2] at H
  have c2b0 : (a0.toList == ([] : List UInt8)) = true := beq_iff_eq.mpr c2
  have c2b1 : (a0.toList != ([] : List UInt8)) = false := bne_eq_false_iff_eq.mpr c2
  clear c2
  obtain rfl := Option.some.inj H
  go_enter Tryd.func22, Tryd.ntmps22
  go_wp2
  go_ret
  exact ⟨by first | rfl | (simp; done) | (simp [*]; done), by repeat (first | exact Drawn0.refl _ | apply Drawn0.step)⟩
 ·
  rw [if_neg c2] at H
  have c2b0 : (a0.toList == ([] : List UInt8)) = false := beq_eq_false_iff_ne.mpr c2
  have c2b1 : (a0.toList != ([] : List UInt8)) = true := bne_iff_ne.mpr c2
  by_cases c3 : 0 < (a0.size : Int)
  ·
   rw [if_pos c3] at H
   have c3b0 : decide (0 < (a0.size : Int)) = true := decide_eq_true c3
   have c3b1 : decide (0 < a0.size) = true := decide_eq_true (by omega)
   clear c3
   obtain rfl := Option.some.inj H
   have p4 : 0 ≤ (0 : Int) := (by omega)
   have q4 : 0 < a0.size := (by have : (0 : Int) < (a0.size : Int) := of_decide_eq_true (by first | (with_reducible assumption) | assumption); omega)
   have hx4 : ∀ h : 0 < a0.size, ((a0[0]'h).toNat : Int) = bt a0 0 := bt_at a0 0
   clear p4
   have qi4 : (0 < (a0.size : Int)) = True := eq_true (of_decide_eq_true (by first | (with_reducible assumption) | assumption))
   replace q4 := eq_true q4
   go_enter Tryd.func22, Tryd.ntmps22
   go_wp2
   go_ret
   exact ⟨by first | rfl | (simp; done) | (simp [*]; done), by repeat (first | exact Drawn0.refl _ | apply Drawn0.step)⟩
  ·
   rw [if_neg c3] at H
   exact absurd H (by simp)

/-! ### octet_New: function 43 (by hand) -/
set_option maxHeartbeats 1000000 in
set_option maxRecDepth 100000 in
theorem octet_New.calls (A0 : Option Addr) (c0 : Nat) (l0 : List Int) (w : World) (hr0 : Kd.C (Kd.int .u8) w A0 l0.length l0) (hc0 : l0.length ≤ c0) (hl : l0.length ≤ 140737488355200) :
  Calls Tryd.prog 43 #[.slice A0 l0.length c0] w fun e w' => ∃ g b : Nat, e = .returned (.pointer (some ⟨g, 0, none⟩)) ∧ MReader.Rdr 105 w' g b l0 false ∧ w.heap.size ≤ g ∧ w.heap.size ≤ b ∧ Below w.heap.size w w' := by
 have HR0 := Aside0.mk hr0
 have HC0 := Aside0.mk hc0
 clear hr0 hc0
 have HB := Aside0.mk (Below.refl w.heap.size w)
 obtain ⟨N, hN⟩ : ∃ N, l0.length = N := ⟨_, rfl⟩
 have HR1 := Aside0.mk (show Kd.C (Kd.int .u8) w A0 N l0 by rw [← hN]; exact HR0.out)
 rw [hN] at hl ⊢
 have HN := Aside0.mk hN
 clear hN HR0 HC0
 go_enter Tryd.func43, Tryd.ntmps43
 go_wp2_with (first | ((with_reducible refine gate_dst (N := 6) rfl ?_); refine Kd.R_make (Kd.int .u8) _ 5 rfl (N := 6) rfl 70 _ _ rfl (N : Int) rfl rfl Tryd.underlying70 (.int .u8 0) 1 info5 rfl (by decide) (by omega) 0 (ok := fun _ => True) (okp := fun _ => True) rfl (fun _ hk => hk) trivial (by omega) (by omega) (Below.refl _ _) (Nat.le_refl _) ?_; intro v1 w1 ho1 hb hg_ hnew_; clear hg_; rw [Int.toNat_natCast] at ho1; have HO1 := Aside0.mk ho1; have HNEW := Aside0.mk hnew_; clear hnew_; obtain ⟨A1, c1, e1⟩ := Kd.R_slice ho1; rw [List.length_replicate] at e1; subst e1; replace HB := Aside0.mk (below_step HB.out hb); clear hb ho1) | ((with_reducible refine gate_builtin (b := .copy) (xs := #[.tmp 7, .tmp 8]) rfl ?_); refine MCopy.R_copy (k := .u8) (w0 := w) (base := w.heap.size) (ok := fun _ => True) rfl (.tmp 7) (.tmp 8) 70 rfl Tryd.underlying70 (by kernel_rfl) (.slice A1 N c1) (List.replicate N 0) l0 A0 N c0 rfl rfl HO1.out (Kd.C_below HR1.out HB.out) HB.out ?_; intro w2 n2 ho2 hb2; have HO2 := Aside0.mk ho2; clear HO1 HB ho2; have HB := Aside0.mk hb2; clear hb2))
 go_ret
 obtain ⟨b, hb, hbl⟩ := HNEW.out
 obtain ⟨ad, rfl⟩ : ∃ ad, A1 = some ad := by
  cases A1 with
  | none => simp [Value.ownBlock] at hb
  | some ad => exact ⟨ad, rfl⟩
 have hbk : ad.block = b := by simpa [Value.ownBlock] using hb
 have hrd := Kd.R_reads' HO2.out
 have hlen : (l0.take (List.replicate N (0 : Int)).length ++ (List.replicate N (0 : Int)).drop l0.length) = l0 := by
  rw [List.length_replicate, List.take_of_length_le (by rw [HN.out]; exact Nat.le_refl _), HN.out, List.drop_replicate, Nat.sub_self]; simp
 have hlt := Kd.R_lt HO2.out b (by simp [Value.ownBlock, hbk])
 rw [hlen] at hrd
 refine ⟨w2.heap.size, b, rfl, ⟨⟨some ad, c1, ?_, ?_, ?_, (fun h0 => by cases h0), fun a ha => by injection ha with ha; rw [← ha]; exact hbk⟩, ?_, ?_⟩, HB.out.size, hbl, below_alloc HB.out _⟩
 · rw [HN.out]; exact heap_alloc_new _ _
 · rw [HN.out]; exact hrd.2.1
 · exact Kd.C_alloc hrd.2.2 _
 · exact Nat.lt_of_lt_of_le hlt (World.grownBy_alloc w2 _ none).size
 · omega

/-! ### octet_Reader_ends: function 74 (by hand) -/
set_option maxHeartbeats 400000 in
theorem octet_Reader_ends.calls (g b : Nat) (l : List Int) (s : Bool) (w : World) (h : MReader.Rdr 105 w g b l s) :
  Calls Tryd.prog 74 #[.pointer (some ⟨g, 0, none⟩)] w fun e w' => e = .returned (.tuple #[]) ∧ MReader.Rdr 105 w' g b [] true ∧ w.grownBy w' (some g) := by
 obtain ⟨A, c, x0, x1, f0, f1, hl, hC, hA⟩ := h.cells
 obtain ⟨⟨A', c', h1, _⟩, hlt, hne⟩ := h
 have H1 := Aside0.mk h1
 clear h1 hl hC hA
 go_enter Tryd.func74, Tryd.ntmps74
 go_wp2
 go_end0
 have e1 := MReader.setCell_heap (j := 1) (u := .bool true) (MReader.setCell_heap (j := 0) (u := .slice none 0 0) H1.out)
 refine ⟨rfl, ⟨⟨none, 0, by simpa using e1, Nat.le_refl _, Kd.C_nil _ _, fun _ => rfl, fun _ h0 => by cases h0⟩, by simpa [World.setCell] using hlt, hne⟩, ?_⟩
 exact MReader.grown_trans (MReader.setCell_grown _ _ _ _) (MReader.setCell_grown _ _ _ _)

/-! ### octet_Reader_Num: function 44 (by hand) -/
set_option maxHeartbeats 1000000 in
set_option maxRecDepth 100000 in
theorem octet_Reader_Num.bad (k : Nat) (g b : Nat) (l : List Int) (s : Bool) (width n : Int) (ok : Bool) (w : World) (h : MReader.Rdr 105 w g b l s) (hg : octet_Get.f k l 0 width = some (n, ok)) (hbad : s = true ∨ ok = false) :
  Calls Tryd.prog 44 #[.pointer (some ⟨g, 0, none⟩), .int .i64 width] w fun e w' => e = .returned (.int .u64 0) ∧ MReader.Rdr 105 w' g b [] true ∧ w.grownBy w' (some g) := by
 obtain ⟨A, c, x0, x1, f0, f1, hl, hC, hN, hA⟩ := h.cells
 have HR := Aside0.mk h
 have HG := Aside0.mk hg
 have HC := Aside0.mk hC
 have HL := Aside0.mk hl
 clear h hg hl hC hN hA
 cases s with
 | true =>
  clear hbad
  go_enter Tryd.func44, Tryd.ntmps44
  go_wp2_with fail
  refine (octet_Get.calls k _ _ l 0 width n ok _ HC.out HL.out HG.out).mono ?_
  rintro e w2 ⟨rfl, ⟨nd, rfl⟩⟩
  go_wp2_with fail
  refine (octet_Reader_ends.calls g b l true _ (HR.out.drewN nd)).mono ?_
  rintro e w3 ⟨rfl, hr, hgr⟩
  have HR3 := Aside0.mk hr
  have HG3 := Aside0.mk hgr
  clear hr hgr
  go_wp2_with fail
  go_ret
  exact ⟨rfl, HR3.out, MReader.drewN_grown HG3.out⟩
 | false =>
  obtain rfl : ok = false := by rcases hbad with h | h; cases h; exact h
  clear hbad
  go_enter Tryd.func44, Tryd.ntmps44
  go_wp2_with fail
  refine (octet_Get.calls k _ _ l 0 width n false _ HC.out HL.out HG.out).mono ?_
  rintro e w2 ⟨rfl, ⟨nd, rfl⟩⟩
  go_wp2_with fail
  refine (octet_Reader_ends.calls g b l false _ (HR.out.drewN nd)).mono ?_
  rintro e w3 ⟨rfl, hr, hgr⟩
  have HR3 := Aside0.mk hr
  have HG3 := Aside0.mk hgr
  clear hr hgr
  go_wp2_with fail
  go_ret
  exact ⟨rfl, HR3.out, MReader.drewN_grown HG3.out⟩
set_option maxHeartbeats 1000000 in
set_option maxRecDepth 100000 in
theorem octet_Reader_Num.ok (k : Nat) (g b : Nat) (l : List Int) (width n : Int) (w : World) (h : MReader.Rdr 105 w g b l false) (hg : octet_Get.f k l 0 width = some (n, true)) (h0 : 0 ≤ width) (h1 : width ≤ (l.length : Int)) :
  Calls Tryd.prog 44 #[.pointer (some ⟨g, 0, none⟩), .int .i64 width] w fun e w' => e = .returned (.int .u64 n) ∧ MReader.Rdr 105 w' g b (l.drop width.toNat) false ∧ w.grownBy w' (some g) := by
 obtain ⟨A, c, x0, x1, f0, f1, hl, hC, hN, hA⟩ := h.cells
 have HR := Aside0.mk h
 have HG := Aside0.mk hg
 have HC := Aside0.mk hC
 have HL := Aside0.mk hl
 obtain ⟨m, rfl⟩ := Int.eq_ofNat_of_zero_le h0
 have hml : m ≤ l.length := by omega
 have hmc : m ≤ c := by omega
 clear h hg hC h0
 by_cases hcm : c = m
 ·
  subst hcm
  go_enter Tryd.func44, Tryd.ntmps44
  go_wp2_with fail
  refine (octet_Get.calls k _ _ l 0 c n true _ HC.out HL.out HG.out).mono ?_
  rintro e w2 ⟨rfl, ⟨nd, rfl⟩⟩
  go_wp2_with fail
  go_ret
  obtain ⟨⟨A', c', e0, _⟩, hlt, hne⟩ := HR.out
  have e1 := MReader.setCell_heap (w := w.drewN nd) (j := 0) (u := .slice A 0 0) e0
  have hd : l.drop ((c : Int)).toNat = [] := List.drop_eq_nil_of_le (by omega)
  rw [hd]
  refine ⟨rfl, ⟨⟨A, 0, by simpa using e1, Nat.le_refl _, ⟨rfl, Nat.zero_le _, fun h0 => by cases h0⟩, fun _ => rfl, hA⟩, by simpa [World.setCell] using hlt, hne⟩, ?_⟩
  exact MReader.drewN_grown (MReader.setCell_grown _ _ _ _)
 ·
  cases A with
  | none => have := hN rfl; omega
  | some ad =>
   obtain ⟨q, hq⟩ : ∃ q, c - m = q := ⟨_, rfl⟩
   obtain ⟨r, hr⟩ : ∃ r, l.length - m = r := ⟨_, rfl⟩
   have HQ := Aside0.mk hq
   have HRr := Aside0.mk hr
   clear hq hr
   go_enter Tryd.func44, Tryd.ntmps44
   go_wp2_with fail
   refine (octet_Get.calls k _ _ l 0 m n true _ HC.out HL.out HG.out).mono ?_
   rintro e w2 ⟨rfl, ⟨nd, rfl⟩⟩
   go_wp2_with fail
   go_ret
   obtain ⟨⟨A', c', e0, _⟩, hlt, hne⟩ := HR.out
   have e1 := MReader.setCell_heap (w := w.drewN nd) (j := 0) (u := .slice (some (ad.add m)) (l.length - m) (c - m)) e0
   have hC2 := Kd.C_drop (c := c) HC.out hml HL.out
   rw [if_neg hcm] at hC2
   have hld : (l.drop m).length = l.length - m := List.length_drop
   rw [Int.toNat_natCast]
   refine ⟨rfl, ⟨⟨some (ad.add m), c - m, by rw [hld]; simpa using e1, by omega, ?_, (fun h0 => by cases h0), fun a ha => ?_⟩, by simpa [World.setCell] using hlt, hne⟩, MReader.drewN_grown (MReader.setCell_grown _ _ _ _)⟩
   · refine MReader.C_block (w := w) (b := b) ?_ (fun a ha => ?_) ?_
     · have e2 : (Kd.int .u8).sz = 1 := rfl
       rw [e2, Nat.mul_one] at hC2
       exact hC2
     · injection ha with ha
       rw [← ha, add_block]; exact hA _ rfl
     · exact Below.heap_setCell (w.drewN nd) ⟨g, 0, none⟩ _ b hne
   · injection ha with ha
     rw [← ha, add_block]; exact hA _ rfl

end Go.Proofs.YtaoopneiglgnkaaDoor.PBase
