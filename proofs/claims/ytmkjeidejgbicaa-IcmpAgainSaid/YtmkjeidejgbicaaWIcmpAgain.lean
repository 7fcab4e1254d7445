/-
  The walk of the law IcmpAgain, by hand, out of the contracts of what it calls.
-/
import Derived.Test.YtmkjeidejgbicaaPBasex5
import Derived.Handy
import Derived.Outline
import Derived.Deep.QuietTactic
import Derived.BigQuiet
set_option linter.unusedVariables false
set_option linter.unusedSimpArgs false
namespace Go.Proofs.Ytmkjeidejgbicaa.WIcmpAgain
open Go.RowKit Go.Proofs.Ytmkjeidejgbicaa.PBase Go.Proofs.YtmkjeidejgbicaaW.PrintWords Go.Proofs.YtmkjeidejgbicaaW.PrintLast Go.Proofs.YtmkjeidejgbicaaW.PrintMore
attribute [local go_sem high] eqH23
theorem cell (w : World) (cs : Array Value) (T j : Nat) (v : Value) {w1 : World} (h : w1.heap[w.heap.size]? = some (.cells cs T (0, 0))) (hj : cs[j]? = some v) : w1.cell? ⟨w.heap.size, j, none⟩ = some v := MStr.block_cell h hj
set_option maxHeartbeats 1000000 in
set_option maxRecDepth 100000 in
theorem bad (k : Nat) (s : ByteArray) (six b1 : Bool) (h1 l1 : Int) (b2 : Bool) (h2 l2 : Int) (er : Int) (w : World) (ht : icmp_Take.f k s six b1 h1 l1 b2 h2 l2 = some (false, 0, 0, 0, ⟨#[]⟩, er)) (he : er ≠ 0) :
    Calls Try.prog 9 #[.string s, .bool six, .agg #[.bool b1, .int .u64 h1, .int .u64 l1, .bool b2, .int .u64 h2, .int .u64 l2]] w fun e w' => e = .returned (.bool true) ∧ Below w.heap.size w w' := by
  have HT := Aside0.mk ht
  have hb0 : (er != 0) = true := by simpa using he
  have hb1 : (er == 0) = false := by simpa using he
  clear ht he
  have HB := Aside0.mk (Below.refl w.heap.size w)
  have hu28 := Try.underlying28
  have hu26 := Try.underlying26
  have hu23 := Try.underlying23
  go_enter Try.func9, Try.ntmps9
  go_wp2_with fail
  refine (crosswaylaw08_awake.calls true _ rfl).mono ?_
  rintro e w1 ⟨rfl, hb⟩
  have HX := Aside0.mk (MStr.block_below (heap_alloc_new w _) hb)
  replace HB := Aside0.mk (below_step (by repeat (first | (with_reducible first | exact HB.out | apply below_alloc | apply pw_below_drewN | apply below_drew1) | exact HB.out)) hb)
  clear hb
  have x0 := cell w _ _ 0 _ HX.out rfl
  have x1 := cell w _ _ 1 _ HX.out rfl
  have x2 := cell w _ _ 2 _ HX.out rfl
  have x3 := cell w _ _ 3 _ HX.out rfl
  have x4 := cell w _ _ 4 _ HX.out rfl
  have x5 := cell w _ _ 5 _ HX.out rfl
  go_wp2_with fail
  refine (icmp_Take.calls k s six b1 h1 l1 b2 h2 l2 _ _ _ _ _ _ _ HT.out).mono ?_
  rintro e w2 ⟨rfl, hb⟩
  replace HB := Aside0.mk (below_step (by repeat (first | (with_reducible first | exact HB.out | apply below_alloc | apply pw_below_drewN | apply below_drew1) | exact HB.out)) hb)
  clear hb x0 x1 x2 x3 x4 x5
  go_wp2_with fail
  go_ret
  exact ⟨rfl, (by repeat (first | (with_reducible first | exact HB.out | apply below_alloc | apply pw_below_drewN | apply below_drew1) | exact HB.out))⟩
set_option maxHeartbeats 1000000 in
set_option maxRecDepth 100000 in
theorem good (k : Nat) (s t : ByteArray) (six b1 : Bool) (h1 l1 : Int) (b2 : Bool) (h2 l2 : Int) (kd cd rs : Int) (data : ByteArray) (w : World) (ht : icmp_Take.f k s six b1 h1 l1 b2 h2 l2 = some (six, kd, cd, rs, data, 0))
    (hl : icmp_Lay.f k six kd cd rs data b1 h1 l1 b2 h2 l2 = some (t, 0)) (h8 : 8 ≤ s.size) (hmx : s.size ≤ 65008) (hsz : t.size = s.size) (e2 : t.extract 0 2 = s.extract 0 2) (e4 : t.extract 4 s.size = s.extract 4 s.size)
    (hfin : t.toList = s.toList ∨ (bt s 2 = 255 ∧ bt s 3 = 255 ∧ bt t 2 = 0 ∧ bt t 3 = 0)) :
    Calls Try.prog 9 #[.string s, .bool six, .agg #[.bool b1, .int .u64 h1, .int .u64 l1, .bool b2, .int .u64 h2, .int .u64 l2]] w fun e w' => e = .returned (.bool true) ∧ Below w.heap.size w w' := by
  have HT := Aside0.mk ht
  have HL := Aside0.mk hl
  have E2 := Aside0.mk e2; have E4 := Aside0.mk e4; have HSZ := Aside0.mk hsz
  have HF := Aside0.mk hfin
  clear ht hl e2 e4 hsz hfin
  have HB := Aside0.mk (Below.refl w.heap.size w)
  have hu28 := Try.underlying28
  have hu26 := Try.underlying26
  have hu23 := Try.underlying23
  go_enter Try.func9, Try.ntmps9
  go_wp2_with fail
  refine (crosswaylaw08_awake.calls true _ rfl).mono ?_
  rintro e w1 ⟨rfl, hb⟩
  have HX := Aside0.mk (MStr.block_below (heap_alloc_new w _) hb)
  replace HB := Aside0.mk (below_step (by repeat (first | (with_reducible first | exact HB.out | apply below_alloc | apply pw_below_drewN | apply below_drew1) | exact HB.out)) hb)
  clear hb
  have x0 := cell w _ _ 0 _ HX.out rfl
  have x1 := cell w _ _ 1 _ HX.out rfl
  have x2 := cell w _ _ 2 _ HX.out rfl
  have x3 := cell w _ _ 3 _ HX.out rfl
  have x4 := cell w _ _ 4 _ HX.out rfl
  have x5 := cell w _ _ 5 _ HX.out rfl
  go_wp2_with fail
  refine (icmp_Take.calls k s six b1 h1 l1 b2 h2 l2 _ _ _ _ _ _ _ HT.out).mono ?_
  rintro e w2 ⟨rfl, hb⟩
  replace HB := Aside0.mk (below_step (by repeat (first | (with_reducible first | exact HB.out | apply below_alloc | apply pw_below_drewN | apply below_drew1) | exact HB.out)) hb)
  have HX2 := Aside0.mk (MStr.block_below (MStr.block_below HX.out hb) (below_alloc (Below.refl w2.heap.size w2) (.cells #[.bool six, .int .i64 kd, .int .i64 cd, .int .i64 rs, .string data] 23 (0, 0))))
  clear hb x0 x1 x2 x3 x4 x5
  have x0 := cell w _ _ 0 _ HX2.out rfl
  have x1 := cell w _ _ 1 _ HX2.out rfl
  have x2 := cell w _ _ 2 _ HX2.out rfl
  have x3 := cell w _ _ 3 _ HX2.out rfl
  have x4 := cell w _ _ 4 _ HX2.out rfl
  have x5 := cell w _ _ 5 _ HX2.out rfl
  go_wp2_with fail
  refine (icmp_Lay.calls k six kd cd rs data b1 h1 l1 b2 h2 l2 _ _ _ HL.out).mono ?_
  rintro e w3 ⟨rfl, hb⟩
  replace HB := Aside0.mk (below_step (by repeat (first | (with_reducible first | exact HB.out | apply below_alloc | apply pw_below_drewN | apply below_drew1) | exact HB.out)) hb)
  clear hb x0 x1 x2 x3 x4 x5
  have hsz := HSZ.out; have e2 := E2.out; have e4 := E4.out
  have i2 : ((2 : Int) ≤ (s.size : Int)) = True := eq_true (by omega)
  have i4 : ((4 : Int) ≤ (s.size : Int)) = True := eq_true (by omega)
  go_wp2_with fail
  go_quiet (fail)
  clear e2 e4
  go_wp2_with fail
  all_goals first
    | (go_ret; exact ⟨rfl, (by repeat (first | (with_reducible first | exact HB.out | apply below_alloc | apply pw_below_drewN | apply below_drew1) | exact HB.out))⟩)
    | (exfalso
       have c2 : ∀ h : 2 < s.size, ((s[2]'h).toNat : Int) = bt s 2 := bt_at s 2
       have c3 : ∀ h : 3 < s.size, ((s[3]'h).toNat : Int) = bt s 3 := bt_at s 3
       have d2 : ∀ h : 2 < t.size, ((t[2]'h).toNat : Int) = bt t 2 := bt_at t 2
       have d3 : ∀ h : 3 < t.size, ((t[3]'h).toNat : Int) = bt t 3 := bt_at t 3
       have c2 := c2 (by omega); have c3 := c3 (by omega); have d2 := d2 (by omega); have d3 := d3 (by omega)
       rcases HF.out with hh | ⟨a1, a2, a3, a4⟩
       · contradiction
       · omega)
end Go.Proofs.Ytmkjeidejgbicaa.WIcmpAgain
