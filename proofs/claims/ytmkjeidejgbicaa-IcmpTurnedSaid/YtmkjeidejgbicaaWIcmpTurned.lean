/-
  The walk of the law IcmpTurned, by hand, out of the contracts of what it calls.
-/
import Derived.Test.YtmkjeidejgbicaaPBasex5
import Derived.Test.YtmkjeidejgbicaaMBytes
import Derived.Handy
import Derived.Outline
import Derived.Deep.QuietTactic
import Derived.BigQuiet
import Derived.Laws.Bits128
import Derived.StillTailTactics
set_option linter.unusedVariables false
set_option linter.unusedSimpArgs false
namespace Go.Proofs.Ytmkjeidejgbicaa.WIcmpTurned
open Go.RowKit Go.Proofs.Ytmkjeidejgbicaa.PBase Go.Proofs.YtmkjeidejgbicaaW.PrintWords Go.Proofs.YtmkjeidejgbicaaW.PrintLast Go.Proofs.YtmkjeidejgbicaaW.PrintMore
/-- []byte(s): its cells, that they may be written, and what is read when one was. -/
theorem bytes_cell (W : World) (e : TypeId) (s : ByteArray) (j : Nat) (hj : j < s.size) : (Lib.bytesWorld W e s).cell? ⟨W.heap.size, j, none⟩ = some (.int .u8 (bt s (j : Int))) := by
 rw [Lib.bytesWorld_cell W e s j hj]
 have h : ((s.data.toList.getD j 0).toNat : Int) = bt s (j : Int) := by
  rw [← rd_bytesOf]
  have hl : j < s.data.toList.length := by rw [data_length]; exact hj
  simp [rd, bytesOf, List.getD_eq_getElem?_getD, List.getElem?_eq_getElem hl]
 rw [h]
theorem bytes_free (W : World) (e : TypeId) (s : ByteArray) (j : Nat) (hj : j < s.size) : (Lib.bytesWorld W e s).frozen? ⟨W.heap.size, j, none⟩ = false := by
 have hs : s.size ≤ (Lib.bytesCells W e s).size := by simp [Lib.bytesCells, Array.size_append, Array.size_map]
 unfold World.frozen?
 rw [show (⟨W.heap.size, j, none⟩ : Addr).block = W.heap.size from rfl, Lib.bytesWorld_at_new]
 simp
 omega
theorem C_set {W : World} {g n : Nat} {l : List Int} (h : (Kd.int .u8).C W (some ⟨g, 0, none⟩) n l) {j : Nat} (hj : j < n) (v : Int) : (Kd.int .u8).C (W.setCell ⟨g, j, none⟩ (.int .u8 v)) (some ⟨g, 0, none⟩) n (l.set j v) := by
 have hr := Kd.reads_of_C (enc := Value.int .u8) (d := (0 : Int)) (h1 := fun _ => rfl) h
 have hl : l.length = n := hr.1
 refine Kd.C_of_reads (enc := Value.int .u8) (d := (0 : Int)) (h1 := fun _ => rfl) ⟨by rw [List.length_set]; exact hl, hr.2.1, fun hp => ?_⟩
 obtain ⟨ad, e, hc⟩ := hr.2.2 hp
 injection e with e
 subst e
 refine ⟨_, rfl, fun i hi => ?_⟩
 have hci := hc i hi
 rw [add_plain] at hci ⊢
 by_cases hij : i = j
 · subst hij
   rw [World.cell?_setCell_same _ _ _ hci]
   simp [List.getD_eq_getElem?_getD, hl, hj]
 · rw [World.cell?_setCell_other _ _ _ _ (by intro h0; injection h0 with h1 h2 h3; exact hij h2.symm), hci]
   simp [List.getD_eq_getElem?_getD, Ne.symm hij]
theorem keep {w w1 : World} {g : Nat} {o : Obj} (h : w.heap[g]? = some o) (hb : Below w.heap.size w w1) : w1.heap[g]? = some o := MStr.block_below h hb
theorem keepA {w : World} {g : Nat} {o : Obj} (h : w.heap[g]? = some o) (o2 : Obj) : (w.alloc o2).heap[g]? = some o := MStr.block_below h (below_alloc (Below.refl w.heap.size w) o2)
theorem cell {w : World} {g : Nat} {cs : Array Value} {T j : Nat} {v : Value} (h : w.heap[g]? = some (.cells cs T (0, 0))) (hj : cs[j]? = some v) : w.cell? ⟨g, j, none⟩ = some v := MStr.block_cell h hj
set_option maxHeartbeats 1000000 in
set_option maxRecDepth 100000 in
theorem bad (k : Nat) (six : Bool) (kd cd rs : Int) (data : ByteArray) (b1 : Bool) (h1 l1 : Int) (b2 : Bool) (h2 l2 : Int) (at_ by_ er : Int) (w : World) (hl : icmp_Lay.f k six kd cd rs data b1 h1 l1 b2 h2 l2 = some (⟨#[]⟩, er)) (he : er ≠ 0) :
    Calls Try.prog 7 #[.agg #[.bool six, .int .i64 kd, .int .i64 cd, .int .i64 rs, .string data], .agg #[.bool b1, .int .u64 h1, .int .u64 l1, .bool b2, .int .u64 h2, .int .u64 l2], .int .i64 at_, .int .i64 by_] w fun e w' => e = .returned (.bool true) ∧ Below w.heap.size w w' := by
  have HL := Aside0.mk hl
  have hb0 : (er != 0) = true := by simpa using he
  have hb1 : (er == 0) = false := by simpa using he
  clear hl he
  have HB := Aside0.mk (Below.refl w.heap.size w)
  have hu28 := Try.underlying28
  have hu26 := Try.underlying26
  have hu23 := Try.underlying23
  obtain ⟨wa, hwa⟩ : ∃ wa, w.alloc (.cells #[.bool six, .int .i64 kd, .int .i64 cd, .int .i64 rs, .string data] 23) = wa := ⟨_, rfl⟩
  obtain ⟨wb, hwb⟩ : ∃ wb, wa.alloc (.cells #[.bool b1, .int .u64 h1, .int .u64 l1, .bool b2, .int .u64 h2, .int .u64 l2] 28) = wb := ⟨_, rfl⟩
  have HM := Aside0.mk (show wb.heap[w.heap.size]? = some (.cells #[.bool six, .int .i64 kd, .int .i64 cd, .int .i64 rs, .string data] 23 (0, 0)) by rw [← hwb, ← hwa]; exact keepA (heap_alloc_new _ _) _)
  have HX := Aside0.mk (show wb.heap[wa.heap.size]? = some (.cells #[.bool b1, .int .u64 h1, .int .u64 l1, .bool b2, .int .u64 h2, .int .u64 l2] 28 (0, 0)) by rw [← hwb]; exact heap_alloc_new _ _)
  replace HB := Aside0.mk (show Below w.heap.size w wb by rw [← hwb, ← hwa]; exact below_alloc (below_alloc HB.out _) _)
  go_enter Try.func7, Try.ntmps7
  go_wp2_with fail
  refine (crosswaylaw08_awake.calls true _ rfl).mono ?_
  rintro e w1 ⟨rfl, hb⟩
  replace HM := Aside0.mk (keep HM.out hb)
  replace HX := Aside0.mk (keep HX.out hb)
  replace HB := Aside0.mk (below_step (by repeat (first | (with_reducible first | exact HB.out | apply below_alloc | apply pw_below_drewN | apply below_drew1) | exact HB.out)) hb)
  clear hb hwa hwb
  have m0 := cell (j := 0) HM.out rfl; have m1 := cell (j := 1) HM.out rfl; have m2 := cell (j := 2) HM.out rfl; have m3 := cell (j := 3) HM.out rfl; have m4 := cell (j := 4) HM.out rfl
  have x0 := cell (j := 0) HX.out rfl; have x1 := cell (j := 1) HX.out rfl; have x2 := cell (j := 2) HX.out rfl; have x3 := cell (j := 3) HX.out rfl; have x4 := cell (j := 4) HX.out rfl; have x5 := cell (j := 5) HX.out rfl
  go_wp2_with fail
  refine (icmp_Lay.calls k six kd cd rs data b1 h1 l1 b2 h2 l2 _ _ _ HL.out).mono ?_
  rintro e w2 ⟨rfl, hb⟩
  replace HB := Aside0.mk (below_step (by repeat (first | (with_reducible first | exact HB.out | apply below_alloc | apply pw_below_drewN | apply below_drew1) | exact HB.out)) hb)
  clear hb x0 x1 x2 x3 x4 x5 m0 m1 m2 m3 m4
  go_wp2_with fail
  go_ret
  exact ⟨rfl, (by repeat (first | (with_reducible first | exact HB.out | apply below_alloc | apply pw_below_drewN | apply below_drew1) | exact HB.out))⟩
set_option maxHeartbeats 2000000 in
set_option maxRecDepth 100000 in
theorem good (k : Nat) (six : Bool) (kd cd rs : Int) (data : ByteArray) (b1 : Bool) (h1 l1 : Int) (b2 : Bool) (h2 l2 : Int) (at_ by_ : Int) (w : World) (s : ByteArray) (hl : icmp_Lay.f k six kd cd rs data b1 h1 l1 b2 h2 l2 = some (s, 0))
    (hs8 : 8 ≤ s.size) (hsm : s.size ≤ 65008) (p : Nat) (hp : p < s.size) (hat : 0 ≤ at_) (hix : Int.tmod at_ (s.size : Int) = (p : Int)) (x : Int) (hx : bits .xor .u8 (bt s (p : Int)) (1 + by_ % 128) = x) (hx0 : 0 ≤ x ∧ x ≤ 255)
    (ht1 : icmp_Take.f k (strOfNums ((bytesOf s).set p x)) six b1 h1 l1 b2 h2 l2 = some (false, 0, 0, 0, ⟨#[]⟩, 72)) (ht2 : six = false → s.size ≠ 65008 → icmp_Take.f k (s ++ strOfNums [1 + by_ % 128]) six b1 h1 l1 b2 h2 l2 = some (false, 0, 0, 0, ⟨#[]⟩, 72)) :
    Calls Try.prog 7 #[.agg #[.bool six, .int .i64 kd, .int .i64 cd, .int .i64 rs, .string data], .agg #[.bool b1, .int .u64 h1, .int .u64 l1, .bool b2, .int .u64 h2, .int .u64 l2], .int .i64 at_, .int .i64 by_] w fun e w' => e = .returned (.bool true) ∧ Below w.heap.size w w' := by
  have HL := Aside0.mk hl
  have HT1 := Aside0.mk ht1
  have HT2 := Aside0.mk ht2
  clear hl ht1 ht2
  have HB := Aside0.mk (Below.refl w.heap.size w)
  have hu28 := Try.underlying28
  have hu26 := Try.underlying26
  have hu23 := Try.underlying23
  have kb := fun s W => print_bytes (P := Try.prog) 9 39 5 Try.underlying9 Try.underlying39 Try.underlying5 s W
  obtain ⟨wa, hwa⟩ : ∃ wa, w.alloc (.cells #[.bool six, .int .i64 kd, .int .i64 cd, .int .i64 rs, .string data] 23) = wa := ⟨_, rfl⟩
  obtain ⟨wb, hwb⟩ : ∃ wb, wa.alloc (.cells #[.bool b1, .int .u64 h1, .int .u64 l1, .bool b2, .int .u64 h2, .int .u64 l2] 28) = wb := ⟨_, rfl⟩
  have HM := Aside0.mk (show wb.heap[w.heap.size]? = some (.cells #[.bool six, .int .i64 kd, .int .i64 cd, .int .i64 rs, .string data] 23 (0, 0)) by rw [← hwb, ← hwa]; exact keepA (heap_alloc_new _ _) _)
  have HX := Aside0.mk (show wb.heap[wa.heap.size]? = some (.cells #[.bool b1, .int .u64 h1, .int .u64 l1, .bool b2, .int .u64 h2, .int .u64 l2] 28 (0, 0)) by rw [← hwb]; exact heap_alloc_new _ _)
  replace HB := Aside0.mk (show Below w.heap.size w wb by rw [← hwb, ← hwa]; exact below_alloc (below_alloc HB.out _) _)
  go_enter Try.func7, Try.ntmps7
  go_wp2_with fail
  refine (crosswaylaw08_awake.calls true _ rfl).mono ?_
  rintro e w1 ⟨rfl, hb⟩
  replace HM := Aside0.mk (keep HM.out hb)
  replace HX := Aside0.mk (keep HX.out hb)
  replace HB := Aside0.mk (below_step (by repeat (first | (with_reducible first | exact HB.out | apply below_alloc | apply pw_below_drewN | apply below_drew1) | exact HB.out)) hb)
  clear hb hwa hwb
  have m0 := cell (j := 0) HM.out rfl; have m1 := cell (j := 1) HM.out rfl; have m2 := cell (j := 2) HM.out rfl; have m3 := cell (j := 3) HM.out rfl; have m4 := cell (j := 4) HM.out rfl
  have x0 := cell (j := 0) HX.out rfl; have x1 := cell (j := 1) HX.out rfl; have x2 := cell (j := 2) HX.out rfl; have x3 := cell (j := 3) HX.out rfl; have x4 := cell (j := 4) HX.out rfl; have x5 := cell (j := 5) HX.out rfl
  go_wp2_with fail
  refine (icmp_Lay.calls k six kd cd rs data b1 h1 l1 b2 h2 l2 _ _ _ HL.out).mono ?_
  rintro e w2 ⟨rfl, hb⟩
  replace HM := Aside0.mk (keep HM.out hb)
  replace HX := Aside0.mk (keep HX.out hb)
  replace HB := Aside0.mk (below_step (by repeat (first | (with_reducible first | exact HB.out | apply below_alloc | apply pw_below_drewN | apply below_drew1) | exact HB.out)) hb)
  clear hb x0 x1 x2 x3 x4 x5 m0 m1 m2 m3 m4
  have c0 : decide (at_ < 0) = false := decide_eq_false (by omega)
  go_wp2_with fail
  have y := bytes_cell w2 5 s p hp
  have z := bytes_free w2 5 s p hp
  have g0 : (0 ≤ (p : Int)) = True := eq_true (by omega)
  have g1 : ((p : Int) < (s.size : Int)) = True := eq_true (by omega)
  have g2 : ((s.size : Int) == 0) = false := beq_eq_false_iff_ne.mpr (by omega)
  have g3 : ((s.size : Int) = 0) = False := eq_false (by omega)
  have ha := i64_and127 by_
  have hw1 : wrap64 (1 + by_ % 128) = 1 + by_ % 128 := by unfold wrap64; omega
  have hw2 : IntKind.u8.wrap (1 + by_ % 128) = 1 + by_ % 128 := by rw [IntKind.wrap_u8]; omega
  have hw3 : (1 + by_ % 128) % 256 = 1 + by_ % 128 := by omega
  have hw4 : wrap64 (p : Int) = (p : Int) := by unfold wrap64; omega
  have hw5 : wrap64 (Int.tmod at_ (s.size : Int)) = (p : Int) := by rw [hix]; exact hw4
  have g5 : (s = ByteArray.empty) = False := eq_false (fun h => by rw [h] at hs8; exact absurd hs8 (by decide))
  go_still_tail 18, (by kernel_rfl)
  have hC : (Kd.int .u8).C ((Lib.bytesWorld w2 5 s).setCell ⟨w2.heap.size, p, none⟩ (.int .u8 x)).drew (some ⟨w2.heap.size, 0, none⟩) s.size ((bytesOf s).set p x) := C_set (MStr.C_bytes w2 5 s (by omega)) (j := p) hp x
  have hcv := Kd.C_string (src := 39) (dst := 9) (e := 5) (c := grownCap w2 s.size 0 5) Try.underlying39 Try.underlying5 Try.underlying9 hC
  have hb3 : Below w2.heap.size w2 ((Lib.bytesWorld w2 5 s).setCell ⟨w2.heap.size, p, none⟩ (.int .u8 x)).drew := below_drew (below_set (bytes_below (Below.refl w2.heap.size w2) (Nat.le_refl _) _ _) (Nat.le_refl _))
  replace HM := Aside0.mk (keep HM.out hb3)
  replace HX := Aside0.mk (keep HX.out hb3)
  replace HB := Aside0.mk (below_step (by repeat (first | (with_reducible first | exact HB.out | apply below_alloc | apply pw_below_drewN | apply below_drew1) | exact HB.out)) hb3)
  have m0 := cell (j := 0) HM.out rfl
  have x0 := cell (j := 0) HX.out rfl; have x1 := cell (j := 1) HX.out rfl; have x2 := cell (j := 2) HX.out rfl; have x3 := cell (j := 3) HX.out rfl; have x4 := cell (j := 4) HX.out rfl; have x5 := cell (j := 5) HX.out rfl
  change wpList _ _ _ _ _ (Lib.bytesWorld w2 5 s).drew
  go_wp2_with fail
  refine (icmp_Take.calls k (strOfNums ((bytesOf s).set p x)) six b1 h1 l1 b2 h2 l2 _ _ _ _ _ _ _ HT1.out).mono ?_
  rintro e w4 ⟨rfl, hb⟩
  replace HM := Aside0.mk (keep HM.out hb)
  replace HX := Aside0.mk (keep HX.out hb)
  replace HB := Aside0.mk (below_step (by repeat (first | (with_reducible first | exact HB.out | apply below_alloc | apply pw_below_drewN | apply below_drew1) | exact HB.out)) hb)
  clear hb x0 x1 x2 x3 x4 x5 m0 hC hcv hb3 y z
  replace HM := Aside0.mk (keepA HM.out (.cells #[.bool false, .int .i64 0, .int .i64 0, .int .i64 0, .string ⟨#[]⟩] 23 (0, 0)))
  replace HX := Aside0.mk (keepA HX.out (.cells #[.bool false, .int .i64 0, .int .i64 0, .int .i64 0, .string ⟨#[]⟩] 23 (0, 0)))
  have m0 := cell (j := 0) HM.out rfl
  cases six with
  | true =>
    go_wp2_with fail
    go_ret
    exact ⟨rfl, (by repeat (first | (with_reducible first | exact HB.out | apply below_alloc | apply pw_below_drewN | apply below_drew1) | exact HB.out))⟩
  | false =>
    by_cases h65 : s.size = 65008
    · have q1 : ((s.size : Int) == 65008) = true := beq_iff_eq.mpr (by omega)
      go_wp2_with fail
      go_ret
      exact ⟨rfl, (by repeat (first | (with_reducible first | exact HB.out | apply below_alloc | apply pw_below_drewN | apply below_drew1) | exact HB.out))⟩
    have HT3 := Aside0.mk (HT2.out rfl h65)
    clear HT2
    have q1 : ((s.size : Int) == 65008) = false := beq_eq_false_iff_ne.mpr (by omega)
    replace HM := Aside0.mk (keepA HM.out (.cells #[.int .u8 (1 + by_ % 128)] 5 (0, 0)))
    replace HX := Aside0.mk (keepA HX.out (.cells #[.int .u8 (1 + by_ % 128)] 5 (0, 0)))
    have n0 := cell (j := 0) HM.out rfl
    have x0 := cell (j := 0) HX.out rfl; have x1 := cell (j := 1) HX.out rfl; have x2 := cell (j := 2) HX.out rfl; have x3 := cell (j := 3) HX.out rfl; have x4 := cell (j := 4) HX.out rfl; have x5 := cell (j := 5) HX.out rfl
    have hsz : (w4.alloc (.cells #[.bool false, .int .i64 0, .int .i64 0, .int .i64 0, .string ⟨#[]⟩] 23 (0, 0))).heap.size = w4.heap.size + 1 := Array.size_push ..
    have hN := heap_alloc_new (w4.alloc (.cells #[.bool false, .int .i64 0, .int .i64 0, .int .i64 0, .string ⟨#[]⟩] 23 (0, 0))) (.cells #[.int .u8 (1 + by_ % 128)] 5 (0, 0))
    rw [hsz] at hN
    have hC5 : (Kd.int .u8).C ((w4.alloc (.cells #[.bool false, .int .i64 0, .int .i64 0, .int .i64 0, .string ⟨#[]⟩] 23 (0, 0))).alloc (.cells #[.int .u8 (1 + by_ % 128)] 5 (0, 0))) (some ⟨w4.heap.size + 1, 0, none⟩) 1 [1 + by_ % 128] := MStr.C_block0 (T := 5) (xs := [1 + by_ % 128]) hN (by simp)
    have hcv5 := Kd.C_string (src := 39) (dst := 9) (e := 5) (c := 1) Try.underlying39 Try.underlying5 Try.underlying9 hC5
    clear hsz hN
    have c14 : s.size + (strOfNums [1 + by_ % 128]).size ≤ 9223372036854775807 := by rw [MBytes.size_ofNums]; simp only [List.length_cons, List.length_nil]; omega
    have c14b0 := eq_true c14
    have c14b1 : (9223372036854775807 < s.size + (strOfNums [1 + by_ % 128]).size) = False := eq_false (by omega)
    have c14b2 : (s.size + (strOfNums [1 + by_ % 128]).size > 9223372036854775807) = False := eq_false (by omega)
    go_wp2_with fail
    refine (icmp_Take.calls k (s ++ strOfNums [1 + by_ % 128]) false b1 h1 l1 b2 h2 l2 _ _ _ _ _ _ _ HT3.out).mono ?_
    rintro e w6 ⟨rfl, hb⟩
    replace HB := Aside0.mk (below_step (by repeat (first | (with_reducible first | exact HB.out | apply below_alloc | apply pw_below_drewN | apply below_drew1) | exact HB.out)) hb)
    clear hb x0 x1 x2 x3 x4 x5 m0 n0 hcv5 hC5
    go_wp2_with fail
    go_ret
    exact ⟨rfl, (by repeat (first | (with_reducible first | exact HB.out | apply below_alloc | apply pw_below_drewN | apply below_drew1) | exact HB.out))⟩
set_option maxHeartbeats 2000000 in
set_option maxRecDepth 100000 in
theorem goodneg (k : Nat) (six : Bool) (kd cd rs : Int) (data : ByteArray) (b1 : Bool) (h1 l1 : Int) (b2 : Bool) (h2 l2 : Int) (at_ by_ : Int) (w : World) (s : ByteArray) (hl : icmp_Lay.f k six kd cd rs data b1 h1 l1 b2 h2 l2 = some (s, 0))
    (hs8 : 8 ≤ s.size) (hsm : s.size ≤ 65008) (p : Nat) (hp : p < s.size) (hat : at_ < 0) (hix : Int.tmod (wrap64 (-(wrap64 (at_ + 1)))) (s.size : Int) = (p : Int)) (x : Int) (hx : bits .xor .u8 (bt s (p : Int)) (1 + by_ % 128) = x) (hx0 : 0 ≤ x ∧ x ≤ 255)
    (ht1 : icmp_Take.f k (strOfNums ((bytesOf s).set p x)) six b1 h1 l1 b2 h2 l2 = some (false, 0, 0, 0, ⟨#[]⟩, 72)) (ht2 : six = false → s.size ≠ 65008 → icmp_Take.f k (s ++ strOfNums [1 + by_ % 128]) six b1 h1 l1 b2 h2 l2 = some (false, 0, 0, 0, ⟨#[]⟩, 72)) :
    Calls Try.prog 7 #[.agg #[.bool six, .int .i64 kd, .int .i64 cd, .int .i64 rs, .string data], .agg #[.bool b1, .int .u64 h1, .int .u64 l1, .bool b2, .int .u64 h2, .int .u64 l2], .int .i64 at_, .int .i64 by_] w fun e w' => e = .returned (.bool true) ∧ Below w.heap.size w w' := by
  have HL := Aside0.mk hl
  have HT1 := Aside0.mk ht1
  have HT2 := Aside0.mk ht2
  clear hl ht1 ht2
  have HB := Aside0.mk (Below.refl w.heap.size w)
  have hu28 := Try.underlying28
  have hu26 := Try.underlying26
  have hu23 := Try.underlying23
  have kb := fun s W => print_bytes (P := Try.prog) 9 39 5 Try.underlying9 Try.underlying39 Try.underlying5 s W
  obtain ⟨wa, hwa⟩ : ∃ wa, w.alloc (.cells #[.bool six, .int .i64 kd, .int .i64 cd, .int .i64 rs, .string data] 23) = wa := ⟨_, rfl⟩
  obtain ⟨wb, hwb⟩ : ∃ wb, wa.alloc (.cells #[.bool b1, .int .u64 h1, .int .u64 l1, .bool b2, .int .u64 h2, .int .u64 l2] 28) = wb := ⟨_, rfl⟩
  have HM := Aside0.mk (show wb.heap[w.heap.size]? = some (.cells #[.bool six, .int .i64 kd, .int .i64 cd, .int .i64 rs, .string data] 23 (0, 0)) by rw [← hwb, ← hwa]; exact keepA (heap_alloc_new _ _) _)
  have HX := Aside0.mk (show wb.heap[wa.heap.size]? = some (.cells #[.bool b1, .int .u64 h1, .int .u64 l1, .bool b2, .int .u64 h2, .int .u64 l2] 28 (0, 0)) by rw [← hwb]; exact heap_alloc_new _ _)
  replace HB := Aside0.mk (show Below w.heap.size w wb by rw [← hwb, ← hwa]; exact below_alloc (below_alloc HB.out _) _)
  go_enter Try.func7, Try.ntmps7
  go_wp2_with fail
  refine (crosswaylaw08_awake.calls true _ rfl).mono ?_
  rintro e w1 ⟨rfl, hb⟩
  replace HM := Aside0.mk (keep HM.out hb)
  replace HX := Aside0.mk (keep HX.out hb)
  replace HB := Aside0.mk (below_step (by repeat (first | (with_reducible first | exact HB.out | apply below_alloc | apply pw_below_drewN | apply below_drew1) | exact HB.out)) hb)
  clear hb hwa hwb
  have m0 := cell (j := 0) HM.out rfl; have m1 := cell (j := 1) HM.out rfl; have m2 := cell (j := 2) HM.out rfl; have m3 := cell (j := 3) HM.out rfl; have m4 := cell (j := 4) HM.out rfl
  have x0 := cell (j := 0) HX.out rfl; have x1 := cell (j := 1) HX.out rfl; have x2 := cell (j := 2) HX.out rfl; have x3 := cell (j := 3) HX.out rfl; have x4 := cell (j := 4) HX.out rfl; have x5 := cell (j := 5) HX.out rfl
  go_wp2_with fail
  refine (icmp_Lay.calls k six kd cd rs data b1 h1 l1 b2 h2 l2 _ _ _ HL.out).mono ?_
  rintro e w2 ⟨rfl, hb⟩
  replace HM := Aside0.mk (keep HM.out hb)
  replace HX := Aside0.mk (keep HX.out hb)
  replace HB := Aside0.mk (below_step (by repeat (first | (with_reducible first | exact HB.out | apply below_alloc | apply pw_below_drewN | apply below_drew1) | exact HB.out)) hb)
  clear hb x0 x1 x2 x3 x4 x5 m0 m1 m2 m3 m4
  have c0 : decide (at_ < 0) = true := decide_eq_true hat
  go_wp2_with fail
  have y := bytes_cell w2 5 s p hp
  have z := bytes_free w2 5 s p hp
  have g0 : (0 ≤ (p : Int)) = True := eq_true (by omega)
  have g1 : ((p : Int) < (s.size : Int)) = True := eq_true (by omega)
  have g2 : ((s.size : Int) == 0) = false := beq_eq_false_iff_ne.mpr (by omega)
  have g3 : ((s.size : Int) = 0) = False := eq_false (by omega)
  have ha := i64_and127 by_
  have hw1 : wrap64 (1 + by_ % 128) = 1 + by_ % 128 := by unfold wrap64; omega
  have hw2 : IntKind.u8.wrap (1 + by_ % 128) = 1 + by_ % 128 := by rw [IntKind.wrap_u8]; omega
  have hw3 : (1 + by_ % 128) % 256 = 1 + by_ % 128 := by omega
  have hw4 : wrap64 (p : Int) = (p : Int) := by unfold wrap64; omega
  have hw5 : wrap64 (Int.tmod (wrap64 (-(wrap64 (at_ + 1)))) (s.size : Int)) = (p : Int) := by rw [hix]; exact hw4
  have g5 : (s = ByteArray.empty) = False := eq_false (fun h => by rw [h] at hs8; exact absurd hs8 (by decide))
  go_still_tail 18, (by kernel_rfl)
  have hC : (Kd.int .u8).C ((Lib.bytesWorld w2 5 s).setCell ⟨w2.heap.size, p, none⟩ (.int .u8 x)).drew (some ⟨w2.heap.size, 0, none⟩) s.size ((bytesOf s).set p x) := C_set (MStr.C_bytes w2 5 s (by omega)) (j := p) hp x
  have hcv := Kd.C_string (src := 39) (dst := 9) (e := 5) (c := grownCap w2 s.size 0 5) Try.underlying39 Try.underlying5 Try.underlying9 hC
  have hb3 : Below w2.heap.size w2 ((Lib.bytesWorld w2 5 s).setCell ⟨w2.heap.size, p, none⟩ (.int .u8 x)).drew := below_drew (below_set (bytes_below (Below.refl w2.heap.size w2) (Nat.le_refl _) _ _) (Nat.le_refl _))
  replace HM := Aside0.mk (keep HM.out hb3)
  replace HX := Aside0.mk (keep HX.out hb3)
  replace HB := Aside0.mk (below_step (by repeat (first | (with_reducible first | exact HB.out | apply below_alloc | apply pw_below_drewN | apply below_drew1) | exact HB.out)) hb3)
  have m0 := cell (j := 0) HM.out rfl
  have x0 := cell (j := 0) HX.out rfl; have x1 := cell (j := 1) HX.out rfl; have x2 := cell (j := 2) HX.out rfl; have x3 := cell (j := 3) HX.out rfl; have x4 := cell (j := 4) HX.out rfl; have x5 := cell (j := 5) HX.out rfl
  change wpList _ _ _ _ _ (Lib.bytesWorld w2 5 s).drew
  go_wp2_with fail
  refine (icmp_Take.calls k (strOfNums ((bytesOf s).set p x)) six b1 h1 l1 b2 h2 l2 _ _ _ _ _ _ _ HT1.out).mono ?_
  rintro e w4 ⟨rfl, hb⟩
  replace HM := Aside0.mk (keep HM.out hb)
  replace HX := Aside0.mk (keep HX.out hb)
  replace HB := Aside0.mk (below_step (by repeat (first | (with_reducible first | exact HB.out | apply below_alloc | apply pw_below_drewN | apply below_drew1) | exact HB.out)) hb)
  clear hb x0 x1 x2 x3 x4 x5 m0 hC hcv hb3 y z
  replace HM := Aside0.mk (keepA HM.out (.cells #[.bool false, .int .i64 0, .int .i64 0, .int .i64 0, .string ⟨#[]⟩] 23 (0, 0)))
  replace HX := Aside0.mk (keepA HX.out (.cells #[.bool false, .int .i64 0, .int .i64 0, .int .i64 0, .string ⟨#[]⟩] 23 (0, 0)))
  have m0 := cell (j := 0) HM.out rfl
  cases six with
  | true =>
    go_wp2_with fail
    go_ret
    exact ⟨rfl, (by repeat (first | (with_reducible first | exact HB.out | apply below_alloc | apply pw_below_drewN | apply below_drew1) | exact HB.out))⟩
  | false =>
    by_cases h65 : s.size = 65008
    · have q1 : ((s.size : Int) == 65008) = true := beq_iff_eq.mpr (by omega)
      go_wp2_with fail
      go_ret
      exact ⟨rfl, (by repeat (first | (with_reducible first | exact HB.out | apply below_alloc | apply pw_below_drewN | apply below_drew1) | exact HB.out))⟩
    have HT3 := Aside0.mk (HT2.out rfl h65)
    clear HT2
    have q1 : ((s.size : Int) == 65008) = false := beq_eq_false_iff_ne.mpr (by omega)
    replace HM := Aside0.mk (keepA HM.out (.cells #[.int .u8 (1 + by_ % 128)] 5 (0, 0)))
    replace HX := Aside0.mk (keepA HX.out (.cells #[.int .u8 (1 + by_ % 128)] 5 (0, 0)))
    have n0 := cell (j := 0) HM.out rfl
    have x0 := cell (j := 0) HX.out rfl; have x1 := cell (j := 1) HX.out rfl; have x2 := cell (j := 2) HX.out rfl; have x3 := cell (j := 3) HX.out rfl; have x4 := cell (j := 4) HX.out rfl; have x5 := cell (j := 5) HX.out rfl
    have hsz : (w4.alloc (.cells #[.bool false, .int .i64 0, .int .i64 0, .int .i64 0, .string ⟨#[]⟩] 23 (0, 0))).heap.size = w4.heap.size + 1 := Array.size_push ..
    have hN := heap_alloc_new (w4.alloc (.cells #[.bool false, .int .i64 0, .int .i64 0, .int .i64 0, .string ⟨#[]⟩] 23 (0, 0))) (.cells #[.int .u8 (1 + by_ % 128)] 5 (0, 0))
    rw [hsz] at hN
    have hC5 : (Kd.int .u8).C ((w4.alloc (.cells #[.bool false, .int .i64 0, .int .i64 0, .int .i64 0, .string ⟨#[]⟩] 23 (0, 0))).alloc (.cells #[.int .u8 (1 + by_ % 128)] 5 (0, 0))) (some ⟨w4.heap.size + 1, 0, none⟩) 1 [1 + by_ % 128] := MStr.C_block0 (T := 5) (xs := [1 + by_ % 128]) hN (by simp)
    have hcv5 := Kd.C_string (src := 39) (dst := 9) (e := 5) (c := 1) Try.underlying39 Try.underlying5 Try.underlying9 hC5
    clear hsz hN
    have c14 : s.size + (strOfNums [1 + by_ % 128]).size ≤ 9223372036854775807 := by rw [MBytes.size_ofNums]; simp only [List.length_cons, List.length_nil]; omega
    have c14b0 := eq_true c14
    have c14b1 : (9223372036854775807 < s.size + (strOfNums [1 + by_ % 128]).size) = False := eq_false (by omega)
    have c14b2 : (s.size + (strOfNums [1 + by_ % 128]).size > 9223372036854775807) = False := eq_false (by omega)
    go_wp2_with fail
    refine (icmp_Take.calls k (s ++ strOfNums [1 + by_ % 128]) false b1 h1 l1 b2 h2 l2 _ _ _ _ _ _ _ HT3.out).mono ?_
    rintro e w6 ⟨rfl, hb⟩
    replace HB := Aside0.mk (below_step (by repeat (first | (with_reducible first | exact HB.out | apply below_alloc | apply pw_below_drewN | apply below_drew1) | exact HB.out)) hb)
    clear hb x0 x1 x2 x3 x4 x5 m0 n0 hcv5 hC5
    go_wp2_with fail
    go_ret
    exact ⟨rfl, (by repeat (first | (with_reducible first | exact HB.out | apply below_alloc | apply pw_below_drewN | apply below_drew1) | exact HB.out))⟩
end Go.Proofs.Ytmkjeidejgbicaa.WIcmpTurned
