/- Functions of the program as Lean functions, each with a proof that a call comes to what it says. Conditions: those of each theorem. Laid by a program of this session. -/
import Derived.Test.YtefbcigccfkkgaaPBasex0
import Derived.Test.YtefbcigccfkkgaaPBasex1
import Derived.Test.YtefbcigccfkkgaaPBasex3
import Derived.Test.YtefbcigccfkkgaaPBasex5
namespace Go.Proofs.Ytefbcigccfkkgaa.PBase
open Go.RowKit Go.Proofs.Ytefbcigccfkkgaa Go.Proofs.YtefbcigccfkkgaaW.PrintWords Go.Proofs.YtefbcigccfkkgaaW.PrintLast Go.Proofs.YtefbcigccfkkgaaW.PrintMore
attribute [local go_sem] max2_int min2_int max_two min_two max_three min_three max_four min_four   -- for this text's walks alone
set_option linter.unusedVariables false
set_option linter.unusedSimpArgs false

attribute [local go_sem high] eqA25
/-- A state of type 66 at block g of W; what its slices lead to came in by w0. -/
def IsS66 (w0 W : World) (g : Nat) (f0 : ByteArray) (f1 : Int) (f2 : Int) (f3 : Bool) (f4 : List (S34)) : Prop := ∃ A4 c4, W.heap[g]? = some (.cells #[.string f0, .int .u64 f1, .int .i64 f2, .bool f3, .slice A4 f4.length c4] 66 (0, 0)) ∧ w0.heap.size ≤ g ∧ Kd.C k34 w0 A4 f4.length f4
theorem IsS66.grown {w0 W : World} {g : Nat} {f0 : ByteArray} {f1 : Int} {f2 : Int} {f3 : Bool} {f4 : List (S34)} {W1 : World} {row : Option Nat} (h : IsS66 w0 W g f0 f1 f2 f3 f4) (hw : W.grownBy W1 row) (hne : some g ≠ row) : IsS66 w0 W1 g f0 f1 f2 f3 f4 := by
 obtain ⟨A4, c4, hb, hg, hr4⟩ := h
 exact ⟨A4, c4, blk_grown hb hw hne, hg, hr4⟩
theorem IsS66.own_neN {w0 W : World} {g : Nat} {f0 : ByteArray} {f1 : Int} {f2 : Int} {f3 : Bool} {f4 : List (S34)} {α : Type} {d : Kd α} {e : Nat} {base : Nat} {ok : Nat → Prop} {v : Value} {xs : List α} (h : IsS66 w0 W g f0 f1 f2 f3 f4) (ho : Kd.N d e W base ok v xs) (ht : e ≠ 66) : some g ≠ v.ownBlock := by
 obtain ⟨A4, c4, hb, hg, hr4⟩ := h
 exact Kd.N_ne ho hb ht
theorem IsS66.fresh {w0 W : World} {g : Nat} {f0 : ByteArray} {f1 : Int} {f2 : Int} {f3 : Bool} {f4 : List (S34)} (h : IsS66 w0 W g f0 f1 f2 f3 f4) : ∀ k, W.heap.size ≤ k → k ≠ g := by
 obtain ⟨A4, c4, hb, hg, hr4⟩ := h
 exact Kd.freshB hb
theorem IsS66.kept {w0 W : World} {g : Nat} {f0 : ByteArray} {f1 : Int} {f2 : Int} {f3 : Bool} {f4 : List (S34)} {W1 : World} {S : Nat → Prop} (h : IsS66 w0 W g f0 f1 f2 f3 f4) (hk : Kept W W1 S) (hne : ¬ S g) : IsS66 w0 W1 g f0 f1 f2 f3 f4 := by
 obtain ⟨A4, c4, hb, hg, hr4⟩ := h
 exact ⟨A4, c4, blk_kept hb hk hne, hg, hr4⟩
theorem IsS66.below {w0 W : World} {g : Nat} {f0 : ByteArray} {f1 : Int} {f2 : Int} {f3 : Bool} {f4 : List (S34)} {W1 : World} (h : IsS66 w0 W g f0 f1 f2 f3 f4) (hw : Below W.heap.size W W1) : IsS66 w0 W1 g f0 f1 f2 f3 f4 := h.grown (grown_of_below hw none) (by simp)
theorem IsS66.alloc {w0 W : World} {g : Nat} {f0 : ByteArray} {f1 : Int} {f2 : Int} {f3 : Bool} {f4 : List (S34)} (h : IsS66 w0 W g f0 f1 f2 f3 f4) (o : Obj) : IsS66 w0 (W.alloc o) g f0 f1 f2 f3 f4 := h.below (below_alloc (Below.refl _ _) o)
theorem IsS66.drewN {w0 W : World} {g : Nat} {f0 : ByteArray} {f1 : Int} {f2 : Int} {f3 : Bool} {f4 : List (S34)} (h : IsS66 w0 W g f0 f1 f2 f3 f4) (m : Nat) : IsS66 w0 (W.drewN m) g f0 f1 f2 f3 f4 := h
theorem IsS66.drew {w0 W : World} {g : Nat} {f0 : ByteArray} {f1 : Int} {f2 : Int} {f3 : Bool} {f4 : List (S34)} (h : IsS66 w0 W g f0 f1 f2 f3 f4) : IsS66 w0 W.drew g f0 f1 f2 f3 f4 := h
theorem IsS66.at_ {w0 W : World} {g : Nat} {f0 : ByteArray} {f1 : Int} {f2 : Int} {f3 : Bool} {f4 : List (S34)} {w' : World} {m : Nat} (hq : W.drewN m = w') (h : IsS66 w0 W g f0 f1 f2 f3 f4) : IsS66 w0 w' g f0 f1 f2 f3 f4 := by subst hq; exact IsS66.drewN h m
theorem IsS66.apart {w0 W : World} {g : Nat} {f0 : ByteArray} {f1 : Int} {f2 : Int} {f3 : Bool} {f4 : List (S34)} {α : Type} {d : Kd α} {e : Nat} {base : Nat} {ok : Nat → Prop} {v : Value} {xs : List α} (h : IsS66 w0 W g f0 f1 f2 f3 f4) (ho : d.R e W base ok v xs) (ht : ∀ q, q ∈ e :: d.E → q ≠ 66) : d.R e W base (fun k => ok k ∧ k ≠ g) v xs := by
 obtain ⟨A4, c4, hb, hg, hr4⟩ := h
 exact Kd.R_types ho hb ht
theorem IsS66.own_ne {w0 W : World} {g : Nat} {f0 : ByteArray} {f1 : Int} {f2 : Int} {f3 : Bool} {f4 : List (S34)} {α : Type} {d : Kd α} {e : Nat} {base : Nat} {ok : Nat → Prop} {v : Value} {xs : List α} (h : IsS66 w0 W g f0 f1 f2 f3 f4) (ho : d.R e W base ok v xs) (ht : e ≠ 66) : some g ≠ v.ownBlock := by
 obtain ⟨A4, c4, hb, hg, hr4⟩ := h
 exact Kd.R_ne ho hb ht
theorem IsS66.apartQ {w0 W : World} {g : Nat} {f0 : ByteArray} {f1 : Int} {f2 : Int} {f3 : Bool} {f4 : List (S34)} {α : Type} {d : Kd α} {e : Nat} {base : Nat} {ok : Nat → Prop} {v : Value} {xs : List α} (h : IsS66 w0 W g f0 f1 f2 f3 f4) (ho : d.Q e W base ok v xs) (ht : ∀ q, q ∈ e :: d.E → q ≠ 66) : d.Q e W base (fun k => ok k ∧ k ≠ g) v xs := by
 obtain ⟨A4, c4, hb, hg, hr4⟩ := h
 exact Kd.Q_types ho hb ht
theorem IsS66.own_neQ {w0 W : World} {g : Nat} {f0 : ByteArray} {f1 : Int} {f2 : Int} {f3 : Bool} {f4 : List (S34)} {α : Type} {d : Kd α} {e : Nat} {base : Nat} {ok : Nat → Prop} {v : Value} {xs : List α} (h : IsS66 w0 W g f0 f1 f2 f3 f4) (ho : d.Q e W base ok v xs) (ht : e ≠ 66) : some g ≠ v.ownBlock := by
 obtain ⟨A4, c4, hb, hg, hr4⟩ := h
 exact Kd.Q_ne ho hb ht
theorem IsS66.apartS {w0 W : World} {g : Nat} {f0 : ByteArray} {f1 : Int} {f2 : Int} {f3 : Bool} {f4 : List (S34)} {α : Type} {d : Kd α} {e : Nat} {base : Nat} {ok : Nat → Prop} {v : Value} {xs : List α} (h : IsS66 w0 W g f0 f1 f2 f3 f4) (ho : d.S e W base ok v xs) (ht : ∀ q, q ∈ e :: d.E → q ≠ 66) : d.S e W base (fun k => ok k ∧ k ≠ g) v xs := by
 obtain ⟨A4, c4, hb, hg, hr4⟩ := h
 exact Kd.S_types ho hb ht
theorem IsS66.own_neS {w0 W : World} {g : Nat} {f0 : ByteArray} {f1 : Int} {f2 : Int} {f3 : Bool} {f4 : List (S34)} {α : Type} {d : Kd α} {e : Nat} {base : Nat} {ok : Nat → Prop} {v : Value} {xs : List α} (h : IsS66 w0 W g f0 f1 f2 f3 f4) (ho : d.S e W base ok v xs) (ht : e ≠ 66) : some g ≠ v.ownBlock := by
 obtain ⟨A4, c4, hb, hg, hr4⟩ := h
 exact Kd.S_ne ho hb ht
theorem IsS66.lt {w0 W : World} {g : Nat} {f0 : ByteArray} {f1 : Int} {f2 : Int} {f3 : Bool} {f4 : List (S34)} (h : IsS66 w0 W g f0 f1 f2 f3 f4) : g < W.heap.size := by
 obtain ⟨A4, c4, hb, hg, hr4⟩ := h
 exact blk_lt hb
theorem IsS66.ge {w0 W : World} {g : Nat} {f0 : ByteArray} {f1 : Int} {f2 : Int} {f3 : Bool} {f4 : List (S34)} (h : IsS66 w0 W g f0 f1 f2 f3 f4) : w0.heap.size ≤ g := by
 obtain ⟨A4, c4, hb, hg, hr4⟩ := h
 exact hg
theorem IsS66.ne_blk {w0 W : World} {g : Nat} {f0 : ByteArray} {f1 : Int} {f2 : Int} {f3 : Bool} {f4 : List (S34)} {a : Nat} {cs : Array Value} {t : TypeId} {fr : Nat × Nat} (h : IsS66 w0 W g f0 f1 f2 f3 f4) (hb2 : W.heap[a]? = some (.cells cs t fr)) (ht : t ≠ 66) : g ≠ a := by
 obtain ⟨A4, c4, hb, hg, hr4⟩ := h
 rintro rfl
 rw [hb] at hb2
 injection hb2 with hb2
 injection hb2 with _ ht2
 exact ht ht2.symm
theorem IsS66.far {w0 W : World} {g : Nat} {f0 : ByteArray} {f1 : Int} {f2 : Int} {f3 : Bool} {f4 : List (S34)} {p : Addr} (h : IsS66 w0 W g f0 f1 f2 f3 f4) (hne : g ≠ p.block) (u : Value) : IsS66 w0 (W.setCell p u) g f0 f1 f2 f3 f4 := by
 obtain ⟨A4, c4, hb, hg, hr4⟩ := h
 exact ⟨A4, c4, blk_far hb hne u, hg, hr4⟩
theorem cellS66_0 {W : World} {g : Nat} {A4 : Option Addr} {c4 : Nat} {f0 : ByteArray} {f1 : Int} {f2 : Int} {f3 : Bool} {f4 : List (S34)} (h : W.heap[g]? = some (.cells #[.string f0, .int .u64 f1, .int .i64 f2, .bool f3, .slice A4 f4.length c4] 66 (0, 0))) : W.cell? ⟨g, 0, none⟩ = some (.string f0) := (blk_cell h 0).trans rfl
theorem IsS66.set_0 {w0 W : World} {g : Nat} {f0 : ByteArray} {f1 : Int} {f2 : Int} {f3 : Bool} {f4 : List (S34)} (h : IsS66 w0 W g f0 f1 f2 f3 f4) (x : ByteArray) : IsS66 w0 (W.setCell ⟨g, 0, none⟩ (.string x)) g x f1 f2 f3 f4 := by
 obtain ⟨A4, c4, hb, hg, hr4⟩ := h
 exact ⟨A4, c4, by simpa using blk_set hb 0 (.string x), hg, hr4⟩
theorem cellS66_1 {W : World} {g : Nat} {A4 : Option Addr} {c4 : Nat} {f0 : ByteArray} {f1 : Int} {f2 : Int} {f3 : Bool} {f4 : List (S34)} (h : W.heap[g]? = some (.cells #[.string f0, .int .u64 f1, .int .i64 f2, .bool f3, .slice A4 f4.length c4] 66 (0, 0))) : W.cell? ⟨g, 1, none⟩ = some (.int .u64 f1) := (blk_cell h 1).trans rfl
theorem IsS66.set_1 {w0 W : World} {g : Nat} {f0 : ByteArray} {f1 : Int} {f2 : Int} {f3 : Bool} {f4 : List (S34)} (h : IsS66 w0 W g f0 f1 f2 f3 f4) (x : Int) : IsS66 w0 (W.setCell ⟨g, 1, none⟩ (.int .u64 x)) g f0 x f2 f3 f4 := by
 obtain ⟨A4, c4, hb, hg, hr4⟩ := h
 exact ⟨A4, c4, by simpa using blk_set hb 1 (.int .u64 x), hg, hr4⟩
theorem cellS66_2 {W : World} {g : Nat} {A4 : Option Addr} {c4 : Nat} {f0 : ByteArray} {f1 : Int} {f2 : Int} {f3 : Bool} {f4 : List (S34)} (h : W.heap[g]? = some (.cells #[.string f0, .int .u64 f1, .int .i64 f2, .bool f3, .slice A4 f4.length c4] 66 (0, 0))) : W.cell? ⟨g, 2, none⟩ = some (.int .i64 f2) := (blk_cell h 2).trans rfl
theorem IsS66.set_2 {w0 W : World} {g : Nat} {f0 : ByteArray} {f1 : Int} {f2 : Int} {f3 : Bool} {f4 : List (S34)} (h : IsS66 w0 W g f0 f1 f2 f3 f4) (x : Int) : IsS66 w0 (W.setCell ⟨g, 2, none⟩ (.int .i64 x)) g f0 f1 x f3 f4 := by
 obtain ⟨A4, c4, hb, hg, hr4⟩ := h
 exact ⟨A4, c4, by simpa using blk_set hb 2 (.int .i64 x), hg, hr4⟩
theorem cellS66_3 {W : World} {g : Nat} {A4 : Option Addr} {c4 : Nat} {f0 : ByteArray} {f1 : Int} {f2 : Int} {f3 : Bool} {f4 : List (S34)} (h : W.heap[g]? = some (.cells #[.string f0, .int .u64 f1, .int .i64 f2, .bool f3, .slice A4 f4.length c4] 66 (0, 0))) : W.cell? ⟨g, 3, none⟩ = some (.bool f3) := (blk_cell h 3).trans rfl
theorem IsS66.set_3 {w0 W : World} {g : Nat} {f0 : ByteArray} {f1 : Int} {f2 : Int} {f3 : Bool} {f4 : List (S34)} (h : IsS66 w0 W g f0 f1 f2 f3 f4) (x : Bool) : IsS66 w0 (W.setCell ⟨g, 3, none⟩ (.bool x)) g f0 f1 f2 x f4 := by
 obtain ⟨A4, c4, hb, hg, hr4⟩ := h
 exact ⟨A4, c4, by simpa using blk_set hb 3 (.bool x), hg, hr4⟩
theorem cellS66_4 {W : World} {g : Nat} {A4 : Option Addr} {c4 : Nat} {f0 : ByteArray} {f1 : Int} {f2 : Int} {f3 : Bool} {f4 : List (S34)} (h : W.heap[g]? = some (.cells #[.string f0, .int .u64 f1, .int .i64 f2, .bool f3, .slice A4 f4.length c4] 66 (0, 0))) : W.cell? ⟨g, 4, none⟩ = some (.slice A4 f4.length c4) := (blk_cell h 4).trans rfl
theorem IsS66.new (w0 W : World) (A4 : Option Addr) (c4 : Nat) (f0 : ByteArray) (f1 : Int) (f2 : Int) (f3 : Bool) (f4 : List (S34)) (hB : Below w0.heap.size w0 W) (hr4 : Kd.C k34 w0 A4 f4.length f4) : IsS66 w0 (W.alloc (.cells #[.string f0, .int .u64 f1, .int .i64 f2, .bool f3, .slice A4 f4.length c4] 66)) W.heap.size f0 f1 f2 f3 f4 := ⟨A4, c4, by simpa using heap_alloc_new W _, hB.size, hr4⟩

/-! ### addr_classSix: function 65 -/
def addr_classSix.f (a0_0 : Bool) (a0_1 : Int) (a0_2 : Int) : Option (Int) := if (a0_0 && (a0_1 == 0 && (a0_2 == 0))) = true then (some 0) else (if (a0_0 && (a0_1 == 0 && (a0_2 == 1))) = true then (some 1) else (if (a0_1 / 18014398509481984) = 1018 then (some 2) else (if (a0_1 / 72057594037927936) = 255 then (some 3) else (some 5))))
set_option maxHeartbeats 8000000 in
set_option maxRecDepth 100000 in
theorem addr_classSix.calls (a0_0 : Bool) (a0_1 : Int) (a0_2 : Int) (r : Int) (w : World) (h : addr_classSix.f a0_0 a0_1 a0_2 = some r) :
  Calls Try.prog 65 #[.agg #[.bool a0_0, .int .u64 a0_1, .int .u64 a0_2]] w fun e w' => e = .returned (.int .i64 r) ∧ Below w.heap.size w w' := by
 have hu25 := Try.underlying25
 have HB := Aside0.mk (Below.refl w.heap.size w)
 have H : (if (a0_0 && (a0_1 == 0 && (a0_2 == 0))) = true then (some 0) else (if (a0_0 && (a0_1 == 0 && (a0_2 == 1))) = true then (some 1) else (if (a0_1 / 18014398509481984) = 1018 then (some 2) else (if (a0_1 / 72057594037927936) = 255 then (some 3) else (some 5))))) = some r := h
 clear h
 by_cases c2 : (a0_0 && (a0_1 == 0 && (a0_2 == 0))) = true
 ·
  rw [if_pos c2] at H
  have c2b0 : (a0_0 && (a0_1 == 0 && (a0_2 == 0))) = true := c2
  clear c2
  obtain rfl := Option.some.inj H
  go_enter Try.func65, Try.ntmps65
  go_wp2_with (first | ((with_reducible refine gate_dst (N := 1) rfl ?_); refine sh_E 1 25 #[.bool a0_0, .int .u64 a0_1, .int .u64 a0_2] ?_; intro gb141 hg w3 hbox hb; have BK141 := Aside0.mk hbox; have GW141 := sh_G HB hg; have GE141 := GW141; replace HB := sh_S HB hb; clear hb hbox hg; obtain ⟨hcz4_0, hcz4_1, hcz4_2⟩ := MBlk.c3 BK141.out; obtain ⟨hfz4_0, hfz4_1, hfz4_2⟩ := MBlk.f3 BK141.out))
  go_ret
  exact ⟨by first | rfl | (simp [errW_none, errW_some] <;> rfl) | (simp [*, errW_none, errW_some] <;> rfl), by repeat (first | (with_reducible first | exact HB.out | apply below_alloc | apply pw_below_drewN | apply below_drew1 | refine below_set ?_ GE141.out) | exact HB.out)⟩
 ·
  rw [if_neg c2] at H
  have c2b0 : (a0_0 && (a0_1 == 0 && (a0_2 == 0))) = false := by simpa using c2
  clear c2
  by_cases c5 : (a0_0 && (a0_1 == 0 && (a0_2 == 1))) = true
  ·
   rw [if_pos c5] at H
   have c5b0 : (a0_0 && (a0_1 == 0 && (a0_2 == 1))) = true := c5
   clear c5
   obtain rfl := Option.some.inj H
   go_enter Try.func65, Try.ntmps65
   go_wp2_with (first | ((with_reducible refine gate_dst (N := 1) rfl ?_); refine sh_E 1 25 #[.bool a0_0, .int .u64 a0_1, .int .u64 a0_2] ?_; intro gb141 hg w6 hbox hb; have BK141 := Aside0.mk hbox; have GW141 := sh_G HB hg; have GE141 := GW141; replace HB := sh_S HB hb; clear hb hbox hg; obtain ⟨hcz7_0, hcz7_1, hcz7_2⟩ := MBlk.c3 BK141.out; obtain ⟨hfz7_0, hfz7_1, hfz7_2⟩ := MBlk.f3 BK141.out))
   go_ret
   exact ⟨by first | rfl | (simp [errW_none, errW_some] <;> rfl) | (simp [*, errW_none, errW_some] <;> rfl), by repeat (first | (with_reducible first | exact HB.out | apply below_alloc | apply pw_below_drewN | apply below_drew1 | refine below_set ?_ GE141.out) | exact HB.out)⟩
  ·
   rw [if_neg c5] at H
   have c5b0 : (a0_0 && (a0_1 == 0 && (a0_2 == 1))) = false := by simpa using c5
   clear c5
   by_cases c8 : (a0_1 / 18014398509481984) = 1018
   ·
    rw [if_pos c8] at H
    have c8b0 : ((a0_1 / 18014398509481984) == 1018) = true := beq_iff_eq.mpr c8
    have c8b1 : ((a0_1 / 18014398509481984) != 1018) = false := bne_eq_false_iff_eq.mpr c8
    clear c8
    obtain rfl := Option.some.inj H
    go_enter Try.func65, Try.ntmps65
    go_wp2_with (first | ((with_reducible refine gate_dst (N := 1) rfl ?_); refine sh_E 1 25 #[.bool a0_0, .int .u64 a0_1, .int .u64 a0_2] ?_; intro gb141 hg w9 hbox hb; have BK141 := Aside0.mk hbox; have GW141 := sh_G HB hg; have GE141 := GW141; replace HB := sh_S HB hb; clear hb hbox hg; obtain ⟨hcz10_0, hcz10_1, hcz10_2⟩ := MBlk.c3 BK141.out; obtain ⟨hfz10_0, hfz10_1, hfz10_2⟩ := MBlk.f3 BK141.out))
    go_ret
    exact ⟨by first | rfl | (simp [errW_none, errW_some] <;> rfl) | (simp [*, errW_none, errW_some] <;> rfl), by repeat (first | (with_reducible first | exact HB.out | apply below_alloc | apply pw_below_drewN | apply below_drew1 | refine below_set ?_ GE141.out) | exact HB.out)⟩
   ·
    rw [if_neg c8] at H
    have c8b0 : ((a0_1 / 18014398509481984) == 1018) = false := beq_eq_false_iff_ne.mpr c8
    have c8b1 : ((a0_1 / 18014398509481984) != 1018) = true := bne_iff_ne.mpr c8
    by_cases c11 : (a0_1 / 72057594037927936) = 255
    ·
     rw [if_pos c11] at H
     have c11b0 : ((a0_1 / 72057594037927936) == 255) = true := beq_iff_eq.mpr c11
     have c11b1 : ((a0_1 / 72057594037927936) != 255) = false := bne_eq_false_iff_eq.mpr c11
     clear c11
     obtain rfl := Option.some.inj H
     go_enter Try.func65, Try.ntmps65
     go_wp2_with (first | ((with_reducible refine gate_dst (N := 1) rfl ?_); refine sh_E 1 25 #[.bool a0_0, .int .u64 a0_1, .int .u64 a0_2] ?_; intro gb141 hg w12 hbox hb; have BK141 := Aside0.mk hbox; have GW141 := sh_G HB hg; have GE141 := GW141; replace HB := sh_S HB hb; clear hb hbox hg; obtain ⟨hcz13_0, hcz13_1, hcz13_2⟩ := MBlk.c3 BK141.out; obtain ⟨hfz13_0, hfz13_1, hfz13_2⟩ := MBlk.f3 BK141.out))
     go_ret
     exact ⟨by first | rfl | (simp [errW_none, errW_some] <;> rfl) | (simp [*, errW_none, errW_some] <;> rfl), by repeat (first | (with_reducible first | exact HB.out | apply below_alloc | apply pw_below_drewN | apply below_drew1 | refine below_set ?_ GE141.out) | exact HB.out)⟩
    ·
     rw [if_neg c11] at H
     have c11b0 : ((a0_1 / 72057594037927936) == 255) = false := beq_eq_false_iff_ne.mpr c11
     have c11b1 : ((a0_1 / 72057594037927936) != 255) = true := bne_iff_ne.mpr c11
     obtain rfl := Option.some.inj H
     go_enter Try.func65, Try.ntmps65
     go_wp2_with (first | ((with_reducible refine gate_dst (N := 1) rfl ?_); refine sh_E 1 25 #[.bool a0_0, .int .u64 a0_1, .int .u64 a0_2] ?_; intro gb141 hg w14 hbox hb; have BK141 := Aside0.mk hbox; have GW141 := sh_G HB hg; have GE141 := GW141; replace HB := sh_S HB hb; clear hb hbox hg; obtain ⟨hcz15_0, hcz15_1, hcz15_2⟩ := MBlk.c3 BK141.out; obtain ⟨hfz15_0, hfz15_1, hfz15_2⟩ := MBlk.f3 BK141.out))
     go_ret
     exact ⟨by first | rfl | (simp [errW_none, errW_some] <;> rfl) | (simp [*, errW_none, errW_some] <;> rfl), by repeat (first | (with_reducible first | exact HB.out | apply below_alloc | apply pw_below_drewN | apply below_drew1 | refine below_set ?_ GE141.out) | exact HB.out)⟩

/-! ### addr_Class: function 59 -/
def addr_Class.f (a0_0 : Bool) (a0_1 : Int) (a0_2 : Int) : Option (Int) := (addr_Valid.f a0_0 a0_1 a0_2).bind fun t143 => (if t143 = true then (if a0_0 = true then ((addr_classSix.f a0_0 a0_1 a0_2).bind fun t144 => (some t144)) else (if a0_2 = 0 then (some 0) else (if (a0_2 / 16777216) = 127 then (some 1) else (if (a0_2 / 65536) = 43518 then (some 2) else (if a0_2 = 4294967295 then (some 4) else (if (a0_2 / 268435456) = 14 then (some 3) else (some 5))))))) else (some (-1)))
set_option maxHeartbeats 8000000 in
set_option maxRecDepth 100000 in
theorem addr_Class.calls (a0_0 : Bool) (a0_1 : Int) (a0_2 : Int) (r : Int) (w : World) (h : addr_Class.f a0_0 a0_1 a0_2 = some r) :
  Calls Try.prog 59 #[.agg #[.bool a0_0, .int .u64 a0_1, .int .u64 a0_2]] w fun e w' => e = .returned (.int .i64 r) ∧ Below w.heap.size w w' := by
 have hu25 := Try.underlying25
 have HB := Aside0.mk (Below.refl w.heap.size w)
 have H : ((addr_Valid.f a0_0 a0_1 a0_2).bind fun t143 => (if t143 = true then (if a0_0 = true then ((addr_classSix.f a0_0 a0_1 a0_2).bind fun t144 => (some t144)) else (if a0_2 = 0 then (some 0) else (if (a0_2 / 16777216) = 127 then (some 1) else (if (a0_2 / 65536) = 43518 then (some 2) else (if a0_2 = 4294967295 then (some 4) else (if (a0_2 / 268435456) = 14 then (some 3) else (some 5))))))) else (some (-1)))) = some r := h
 clear h
 replace H := Option.bind_eq_some_iff.mp H
 obtain ⟨t143, A20, H⟩ := H
 have A2 := Aside0.mk A20
 clear A20
 by_cases c3 : t143 = true
 ·
  subst c3
  rw [if_pos rfl] at H
  by_cases c4 : a0_0 = true
  ·
   subst c4
   rw [if_pos rfl] at H
   replace H := Option.bind_eq_some_iff.mp H
   obtain ⟨t144, A50, H⟩ := H
   have A5 := Aside0.mk A50
   clear A50
   obtain rfl := Option.some.inj H
   go_enter Try.func59, Try.ntmps59
   go_wp2_with (first | ((with_reducible refine gate_dst (N := 1) rfl ?_); refine sh_E 1 25 #[.bool true, .int .u64 a0_1, .int .u64 a0_2] ?_; intro gb142 hg w6 hbox hb; have BK142 := Aside0.mk hbox; have GW142 := sh_G HB hg; have GE142 := GW142; replace HB := sh_S HB hb; clear hb hbox hg; obtain ⟨hcz7_0, hcz7_1, hcz7_2⟩ := MBlk.c3 BK142.out; obtain ⟨hfz7_0, hfz7_1, hfz7_2⟩ := MBlk.f3 BK142.out) | ((with_reducible refine gate_callee (f := 27) rfl ?_); refine sh_C 5 Try.func27 #[.agg #[.bool true, .int .u64 a0_1, .int .u64 a0_2]] ?_; (with_reducible refine (addr_Valid.calls true a0_1 a0_2 true _ A2.out).mono ?_); rintro e w8 ⟨rfl, hb⟩; refine ⟨_, rfl, ?_⟩; replace BK142 := sh_L BK142 hb; replace HB := sh_S HB hb; (try clear hb); (try clear hb2); (try clear hk); (try clear hi); obtain ⟨hcz9_0, hcz9_1, hcz9_2⟩ := MBlk.c3 BK142.out; obtain ⟨hfz9_0, hfz9_1, hfz9_2⟩ := MBlk.f3 BK142.out) | ((with_reducible refine gate_callee (f := 65) rfl ?_); refine sh_C 11 Try.func65 #[.agg #[.bool true, .int .u64 a0_1, .int .u64 a0_2]] ?_; (with_reducible refine (addr_classSix.calls true a0_1 a0_2 t144 _ A5.out).mono ?_); rintro e w10 ⟨rfl, hb⟩; refine ⟨_, rfl, ?_⟩; replace BK142 := sh_L BK142 hb; replace HB := sh_S HB hb; (try clear hb); (try clear hb2); (try clear hk); (try clear hi)))
   go_ret
   exact ⟨by first | rfl | (simp [errW_none, errW_some] <;> rfl) | (simp [*, errW_none, errW_some] <;> rfl), by repeat (first | (with_reducible first | exact HB.out | apply below_alloc | apply pw_below_drewN | apply below_drew1 | refine below_set ?_ GE142.out) | exact HB.out)⟩
  ·
   replace c4 := Bool.eq_false_iff.mpr c4
   subst c4
   rw [if_neg (show ¬ (false = true) by decide)] at H
   by_cases c11 : a0_2 = 0
   ·
    rw [if_pos c11] at H
    have c11b0 : (a0_2 == 0) = true := beq_iff_eq.mpr c11
    have c11b1 : (a0_2 != 0) = false := bne_eq_false_iff_eq.mpr c11
    clear c11
    obtain rfl := Option.some.inj H
    go_enter Try.func59, Try.ntmps59
    go_wp2_with (first | ((with_reducible refine gate_dst (N := 1) rfl ?_); refine sh_E 1 25 #[.bool false, .int .u64 a0_1, .int .u64 a0_2] ?_; intro gb142 hg w12 hbox hb; have BK142 := Aside0.mk hbox; have GW142 := sh_G HB hg; have GE142 := GW142; replace HB := sh_S HB hb; clear hb hbox hg; obtain ⟨hcz13_0, hcz13_1, hcz13_2⟩ := MBlk.c3 BK142.out; obtain ⟨hfz13_0, hfz13_1, hfz13_2⟩ := MBlk.f3 BK142.out) | ((with_reducible refine gate_callee (f := 27) rfl ?_); refine sh_C 5 Try.func27 #[.agg #[.bool false, .int .u64 a0_1, .int .u64 a0_2]] ?_; (with_reducible refine (addr_Valid.calls false a0_1 a0_2 true _ A2.out).mono ?_); rintro e w14 ⟨rfl, hb⟩; refine ⟨_, rfl, ?_⟩; replace BK142 := sh_L BK142 hb; replace HB := sh_S HB hb; (try clear hb); (try clear hb2); (try clear hk); (try clear hi); obtain ⟨hcz15_0, hcz15_1, hcz15_2⟩ := MBlk.c3 BK142.out; obtain ⟨hfz15_0, hfz15_1, hfz15_2⟩ := MBlk.f3 BK142.out))
    go_ret
    exact ⟨by first | rfl | (simp [errW_none, errW_some] <;> rfl) | (simp [*, errW_none, errW_some] <;> rfl), by repeat (first | (with_reducible first | exact HB.out | apply below_alloc | apply pw_below_drewN | apply below_drew1 | refine below_set ?_ GE142.out) | exact HB.out)⟩
   ·
    rw [if_neg c11] at H
    have c11b0 : (a0_2 == 0) = false := beq_eq_false_iff_ne.mpr c11
    have c11b1 : (a0_2 != 0) = true := bne_iff_ne.mpr c11
    by_cases c16 : (a0_2 / 16777216) = 127
    ·
     rw [if_pos c16] at H
     have c16b0 : ((a0_2 / 16777216) == 127) = true := beq_iff_eq.mpr c16
     have c16b1 : ((a0_2 / 16777216) != 127) = false := bne_eq_false_iff_eq.mpr c16
     clear c16
     obtain rfl := Option.some.inj H
     go_enter Try.func59, Try.ntmps59
     go_wp2_with (first | ((with_reducible refine gate_dst (N := 1) rfl ?_); refine sh_E 1 25 #[.bool false, .int .u64 a0_1, .int .u64 a0_2] ?_; intro gb142 hg w17 hbox hb; have BK142 := Aside0.mk hbox; have GW142 := sh_G HB hg; have GE142 := GW142; replace HB := sh_S HB hb; clear hb hbox hg; obtain ⟨hcz18_0, hcz18_1, hcz18_2⟩ := MBlk.c3 BK142.out; obtain ⟨hfz18_0, hfz18_1, hfz18_2⟩ := MBlk.f3 BK142.out) | ((with_reducible refine gate_callee (f := 27) rfl ?_); refine sh_C 5 Try.func27 #[.agg #[.bool false, .int .u64 a0_1, .int .u64 a0_2]] ?_; (with_reducible refine (addr_Valid.calls false a0_1 a0_2 true _ A2.out).mono ?_); rintro e w19 ⟨rfl, hb⟩; refine ⟨_, rfl, ?_⟩; replace BK142 := sh_L BK142 hb; replace HB := sh_S HB hb; (try clear hb); (try clear hb2); (try clear hk); (try clear hi); obtain ⟨hcz20_0, hcz20_1, hcz20_2⟩ := MBlk.c3 BK142.out; obtain ⟨hfz20_0, hfz20_1, hfz20_2⟩ := MBlk.f3 BK142.out))
     go_ret
     exact ⟨by first | rfl | (simp [errW_none, errW_some] <;> rfl) | (simp [*, errW_none, errW_some] <;> rfl), by repeat (first | (with_reducible first | exact HB.out | apply below_alloc | apply pw_below_drewN | apply below_drew1 | refine below_set ?_ GE142.out) | exact HB.out)⟩
    ·
     rw [if_neg c16] at H
     have c16b0 : ((a0_2 / 16777216) == 127) = false := beq_eq_false_iff_ne.mpr c16
     have c16b1 : ((a0_2 / 16777216) != 127) = true := bne_iff_ne.mpr c16
     by_cases c21 : (a0_2 / 65536) = 43518
     ·
      rw [if_pos c21] at H
      have c21b0 : ((a0_2 / 65536) == 43518) = true := beq_iff_eq.mpr c21
      have c21b1 : ((a0_2 / 65536) != 43518) = false := bne_eq_false_iff_eq.mpr c21
      clear c21
      obtain rfl := Option.some.inj H
      go_enter Try.func59, Try.ntmps59
      go_wp2_with (first | ((with_reducible refine gate_dst (N := 1) rfl ?_); refine sh_E 1 25 #[.bool false, .int .u64 a0_1, .int .u64 a0_2] ?_; intro gb142 hg w22 hbox hb; have BK142 := Aside0.mk hbox; have GW142 := sh_G HB hg; have GE142 := GW142; replace HB := sh_S HB hb; clear hb hbox hg; obtain ⟨hcz23_0, hcz23_1, hcz23_2⟩ := MBlk.c3 BK142.out; obtain ⟨hfz23_0, hfz23_1, hfz23_2⟩ := MBlk.f3 BK142.out) | ((with_reducible refine gate_callee (f := 27) rfl ?_); refine sh_C 5 Try.func27 #[.agg #[.bool false, .int .u64 a0_1, .int .u64 a0_2]] ?_; (with_reducible refine (addr_Valid.calls false a0_1 a0_2 true _ A2.out).mono ?_); rintro e w24 ⟨rfl, hb⟩; refine ⟨_, rfl, ?_⟩; replace BK142 := sh_L BK142 hb; replace HB := sh_S HB hb; (try clear hb); (try clear hb2); (try clear hk); (try clear hi); obtain ⟨hcz25_0, hcz25_1, hcz25_2⟩ := MBlk.c3 BK142.out; obtain ⟨hfz25_0, hfz25_1, hfz25_2⟩ := MBlk.f3 BK142.out))
      go_ret
      exact ⟨by first | rfl | (simp [errW_none, errW_some] <;> rfl) | (simp [*, errW_none, errW_some] <;> rfl), by repeat (first | (with_reducible first | exact HB.out | apply below_alloc | apply pw_below_drewN | apply below_drew1 | refine below_set ?_ GE142.out) | exact HB.out)⟩
     ·
      rw [if_neg c21] at H
      have c21b0 : ((a0_2 / 65536) == 43518) = false := beq_eq_false_iff_ne.mpr c21
      have c21b1 : ((a0_2 / 65536) != 43518) = true := bne_iff_ne.mpr c21
      by_cases c26 : a0_2 = 4294967295
      ·
       rw [if_pos c26] at H
       have c26b0 : (a0_2 == 4294967295) = true := beq_iff_eq.mpr c26
       have c26b1 : (a0_2 != 4294967295) = false := bne_eq_false_iff_eq.mpr c26
       clear c26
       obtain rfl := Option.some.inj H
       go_enter Try.func59, Try.ntmps59
       go_wp2_with (first | ((with_reducible refine gate_dst (N := 1) rfl ?_); refine sh_E 1 25 #[.bool false, .int .u64 a0_1, .int .u64 a0_2] ?_; intro gb142 hg w27 hbox hb; have BK142 := Aside0.mk hbox; have GW142 := sh_G HB hg; have GE142 := GW142; replace HB := sh_S HB hb; clear hb hbox hg; obtain ⟨hcz28_0, hcz28_1, hcz28_2⟩ := MBlk.c3 BK142.out; obtain ⟨hfz28_0, hfz28_1, hfz28_2⟩ := MBlk.f3 BK142.out) | ((with_reducible refine gate_callee (f := 27) rfl ?_); refine sh_C 5 Try.func27 #[.agg #[.bool false, .int .u64 a0_1, .int .u64 a0_2]] ?_; (with_reducible refine (addr_Valid.calls false a0_1 a0_2 true _ A2.out).mono ?_); rintro e w29 ⟨rfl, hb⟩; refine ⟨_, rfl, ?_⟩; replace BK142 := sh_L BK142 hb; replace HB := sh_S HB hb; (try clear hb); (try clear hb2); (try clear hk); (try clear hi); obtain ⟨hcz30_0, hcz30_1, hcz30_2⟩ := MBlk.c3 BK142.out; obtain ⟨hfz30_0, hfz30_1, hfz30_2⟩ := MBlk.f3 BK142.out))
       go_ret
       exact ⟨by first | rfl | (simp [errW_none, errW_some] <;> rfl) | (simp [*, errW_none, errW_some] <;> rfl), by repeat (first | (with_reducible first | exact HB.out | apply below_alloc | apply pw_below_drewN | apply below_drew1 | refine below_set ?_ GE142.out) | exact HB.out)⟩
      ·
       rw [if_neg c26] at H
       have c26b0 : (a0_2 == 4294967295) = false := beq_eq_false_iff_ne.mpr c26
       have c26b1 : (a0_2 != 4294967295) = true := bne_iff_ne.mpr c26
       by_cases c31 : (a0_2 / 268435456) = 14
       ·
        rw [if_pos c31] at H
        have c31b0 : ((a0_2 / 268435456) == 14) = true := beq_iff_eq.mpr c31
        have c31b1 : ((a0_2 / 268435456) != 14) = false := bne_eq_false_iff_eq.mpr c31
        clear c31
        obtain rfl := Option.some.inj H
        go_enter Try.func59, Try.ntmps59
        go_wp2_with (first | ((with_reducible refine gate_dst (N := 1) rfl ?_); refine sh_E 1 25 #[.bool false, .int .u64 a0_1, .int .u64 a0_2] ?_; intro gb142 hg w32 hbox hb; have BK142 := Aside0.mk hbox; have GW142 := sh_G HB hg; have GE142 := GW142; replace HB := sh_S HB hb; clear hb hbox hg; obtain ⟨hcz33_0, hcz33_1, hcz33_2⟩ := MBlk.c3 BK142.out; obtain ⟨hfz33_0, hfz33_1, hfz33_2⟩ := MBlk.f3 BK142.out) | ((with_reducible refine gate_callee (f := 27) rfl ?_); refine sh_C 5 Try.func27 #[.agg #[.bool false, .int .u64 a0_1, .int .u64 a0_2]] ?_; (with_reducible refine (addr_Valid.calls false a0_1 a0_2 true _ A2.out).mono ?_); rintro e w34 ⟨rfl, hb⟩; refine ⟨_, rfl, ?_⟩; replace BK142 := sh_L BK142 hb; replace HB := sh_S HB hb; (try clear hb); (try clear hb2); (try clear hk); (try clear hi); obtain ⟨hcz35_0, hcz35_1, hcz35_2⟩ := MBlk.c3 BK142.out; obtain ⟨hfz35_0, hfz35_1, hfz35_2⟩ := MBlk.f3 BK142.out))
        go_ret
        exact ⟨by first | rfl | (simp [errW_none, errW_some] <;> rfl) | (simp [*, errW_none, errW_some] <;> rfl), by repeat (first | (with_reducible first | exact HB.out | apply below_alloc | apply pw_below_drewN | apply below_drew1 | refine below_set ?_ GE142.out) | exact HB.out)⟩
       ·
        rw [if_neg c31] at H
        have c31b0 : ((a0_2 / 268435456) == 14) = false := beq_eq_false_iff_ne.mpr c31
        have c31b1 : ((a0_2 / 268435456) != 14) = true := bne_iff_ne.mpr c31
        obtain rfl := Option.some.inj H
        go_enter Try.func59, Try.ntmps59
        go_wp2_with (first | ((with_reducible refine gate_dst (N := 1) rfl ?_); refine sh_E 1 25 #[.bool false, .int .u64 a0_1, .int .u64 a0_2] ?_; intro gb142 hg w36 hbox hb; have BK142 := Aside0.mk hbox; have GW142 := sh_G HB hg; have GE142 := GW142; replace HB := sh_S HB hb; clear hb hbox hg; obtain ⟨hcz37_0, hcz37_1, hcz37_2⟩ := MBlk.c3 BK142.out; obtain ⟨hfz37_0, hfz37_1, hfz37_2⟩ := MBlk.f3 BK142.out) | ((with_reducible refine gate_callee (f := 27) rfl ?_); refine sh_C 5 Try.func27 #[.agg #[.bool false, .int .u64 a0_1, .int .u64 a0_2]] ?_; (with_reducible refine (addr_Valid.calls false a0_1 a0_2 true _ A2.out).mono ?_); rintro e w38 ⟨rfl, hb⟩; refine ⟨_, rfl, ?_⟩; replace BK142 := sh_L BK142 hb; replace HB := sh_S HB hb; (try clear hb); (try clear hb2); (try clear hk); (try clear hi); obtain ⟨hcz39_0, hcz39_1, hcz39_2⟩ := MBlk.c3 BK142.out; obtain ⟨hfz39_0, hfz39_1, hfz39_2⟩ := MBlk.f3 BK142.out))
        go_ret
        exact ⟨by first | rfl | (simp [errW_none, errW_some] <;> rfl) | (simp [*, errW_none, errW_some] <;> rfl), by repeat (first | (with_reducible first | exact HB.out | apply below_alloc | apply pw_below_drewN | apply below_drew1 | refine below_set ?_ GE142.out) | exact HB.out)⟩
 ·
  replace c3 := Bool.eq_false_iff.mpr c3
  subst c3
  rw [if_neg (show ¬ (false = true) by decide)] at H
  obtain rfl := Option.some.inj H
  go_enter Try.func59, Try.ntmps59
  go_wp2_with (first | ((with_reducible refine gate_dst (N := 1) rfl ?_); refine sh_E 1 25 #[.bool a0_0, .int .u64 a0_1, .int .u64 a0_2] ?_; intro gb142 hg w40 hbox hb; have BK142 := Aside0.mk hbox; have GW142 := sh_G HB hg; have GE142 := GW142; replace HB := sh_S HB hb; clear hb hbox hg; obtain ⟨hcz41_0, hcz41_1, hcz41_2⟩ := MBlk.c3 BK142.out; obtain ⟨hfz41_0, hfz41_1, hfz41_2⟩ := MBlk.f3 BK142.out) | ((with_reducible refine gate_callee (f := 27) rfl ?_); refine sh_C 5 Try.func27 #[.agg #[.bool a0_0, .int .u64 a0_1, .int .u64 a0_2]] ?_; (with_reducible refine (addr_Valid.calls a0_0 a0_1 a0_2 false _ A2.out).mono ?_); rintro e w42 ⟨rfl, hb⟩; refine ⟨_, rfl, ?_⟩; replace BK142 := sh_L BK142 hb; replace HB := sh_S HB hb; (try clear hb); (try clear hb2); (try clear hk); (try clear hi)))
  go_ret
  exact ⟨by first | rfl | (simp [errW_none, errW_some] <;> rfl) | (simp [*, errW_none, errW_some] <;> rfl), by repeat (first | (with_reducible first | exact HB.out | apply below_alloc | apply pw_below_drewN | apply below_drew1 | refine below_set ?_ GE142.out) | exact HB.out)⟩

/-! ### iface_may: function 46 -/
def iface_may.f (a0_0 : Bool) (a0_1 : Int) (a0_2 : Int) (a1 : Int) : Option (Bool) := (addr_Class.f a0_0 a0_1 a0_2).bind fun t146 => ((prefix_Of.f a0_0 a0_1 a0_2 a1).bind fun bt147 => (if t146 = 2 then (if bt147.2.2.2.2 = 0 then (some (decide (a1 > 0))) else (some false)) else (if t146 = 5 then (if bt147.2.2.2.2 = 0 then (some (decide (a1 > 0))) else (some false)) else (some false))))
set_option maxHeartbeats 8000000 in
set_option maxRecDepth 100000 in
theorem iface_may.calls (a0_0 : Bool) (a0_1 : Int) (a0_2 : Int) (a1 : Int) (r : Bool) (w : World) (h : iface_may.f a0_0 a0_1 a0_2 a1 = some r) :
  Calls Try.prog 46 #[.agg #[.bool a0_0, .int .u64 a0_1, .int .u64 a0_2], .int .i64 a1] w fun e w' => e = .returned (.bool r) ∧ Below w.heap.size w w' := by
 have hu25 := Try.underlying25
 have hu83 := Try.underlying83
 have HB := Aside0.mk (Below.refl w.heap.size w)
 have H : ((addr_Class.f a0_0 a0_1 a0_2).bind fun t146 => ((prefix_Of.f a0_0 a0_1 a0_2 a1).bind fun bt147 => (if t146 = 2 then (if bt147.2.2.2.2 = 0 then (some (decide (a1 > 0))) else (some false)) else (if t146 = 5 then (if bt147.2.2.2.2 = 0 then (some (decide (a1 > 0))) else (some false)) else (some false))))) = some r := h
 clear h
 replace H := Option.bind_eq_some_iff.mp H
 obtain ⟨t146, A30, H⟩ := H
 have A3 := Aside0.mk A30
 clear A30
 replace H := Option.bind_eq_some_iff.mp H
 obtain ⟨⟨t147, t148, t149, t150, t151⟩, A40, H⟩ := H
 replace H : (if t146 = 2 then (if t151 = 0 then (some (decide (a1 > 0))) else (some false)) else (if t146 = 5 then (if t151 = 0 then (some (decide (a1 > 0))) else (some false)) else (some false))) = some r := H
 have A4 := Aside0.mk A40
 clear A40
 by_cases c5 : t146 = 2
 ·
  rw [if_pos c5] at H
  have c5b0 : (t146 == 2) = true := beq_iff_eq.mpr c5
  have c5b1 : (t146 != 2) = false := bne_eq_false_iff_eq.mpr c5
  clear c5
  by_cases c6 : t151 = 0
  ·
   rw [if_pos c6] at H
   have c6b0 : (t151 == 0) = true := beq_iff_eq.mpr c6
   have c6b1 : (t151 != 0) = false := bne_eq_false_iff_eq.mpr c6
   clear c6
   obtain rfl := Option.some.inj H
   go_enter Try.func46, Try.ntmps46
   go_wp2_with (first | ((with_reducible refine gate_dst (N := 2) rfl ?_); refine sh_E 2 25 #[.bool a0_0, .int .u64 a0_1, .int .u64 a0_2] ?_; intro gb145 hg w7 hbox hb; have BK145 := Aside0.mk hbox; have GW145 := sh_G HB hg; have GE145 := GW145; replace HB := sh_S HB hb; clear hb hbox hg; obtain ⟨hcz8_0, hcz8_1, hcz8_2⟩ := MBlk.c3 BK145.out; obtain ⟨hfz8_0, hfz8_1, hfz8_2⟩ := MBlk.f3 BK145.out) | ((with_reducible refine gate_callee (f := 59) rfl ?_); refine sh_C 9 Try.func59 #[.agg #[.bool a0_0, .int .u64 a0_1, .int .u64 a0_2]] ?_; (with_reducible refine (addr_Class.calls a0_0 a0_1 a0_2 t146 _ A3.out).mono ?_); rintro e w9 ⟨rfl, hb⟩; refine ⟨_, rfl, ?_⟩; replace BK145 := sh_L BK145 hb; replace HB := sh_S HB hb; (try clear hb); (try clear hb2); (try clear hk); (try clear hi); obtain ⟨hcz10_0, hcz10_1, hcz10_2⟩ := MBlk.c3 BK145.out; obtain ⟨hfz10_0, hfz10_1, hfz10_2⟩ := MBlk.f3 BK145.out) | ((with_reducible refine gate_callee (f := 47) rfl ?_); refine sh_C 13 Try.func47 #[.agg #[.bool a0_0, .int .u64 a0_1, .int .u64 a0_2], .int .i64 a1] ?_; (with_reducible refine (prefix_Of.calls a0_0 a0_1 a0_2 a1 t147 t148 t149 t150 t151 _ A4.out).mono ?_); rintro e w11 ⟨rfl, hb⟩; refine ⟨_, rfl, ?_⟩; replace BK145 := sh_L BK145 hb; replace HB := sh_S HB hb; (try clear hb); (try clear hb2); (try clear hk); (try clear hi)) | ((with_reducible refine gate_dst (N := 6) rfl ?_); refine sh_E 6 83 #[.bool false, .int .u64 0, .int .u64 0, .int .i64 0] ?_; intro gb152 hg w12 hbox hb; have BK152 := Aside0.mk hbox; have GW152 := sh_G HB hg; have GE152 := GW152; replace HB := sh_S HB hb; have NB145_152 := sh_N BK145 hg; have NB152_145 := sh_M BK145 hg; replace BK145 := sh_L BK145 hb; clear hb hbox hg; have hnb13 := NB152_145.out; have hnc13 := NB145_152.out; obtain ⟨hcz14_0, hcz14_1, hcz14_2, hcz14_3⟩ := MBlk.c4 BK152.out; obtain ⟨hfz14_0, hfz14_1, hfz14_2, hfz14_3⟩ := MBlk.f4 BK152.out))
   go_ret
   exact ⟨by first | rfl | (simp [errW_none, errW_some] <;> rfl) | (simp [*, errW_none, errW_some] <;> rfl), by repeat (first | (with_reducible first | exact HB.out | apply below_alloc | apply pw_below_drewN | apply below_drew1 | refine below_set ?_ GE145.out | refine below_set ?_ GE152.out) | exact HB.out)⟩
  ·
   rw [if_neg c6] at H
   have c6b0 : (t151 == 0) = false := beq_eq_false_iff_ne.mpr c6
   have c6b1 : (t151 != 0) = true := bne_iff_ne.mpr c6
   obtain rfl := Option.some.inj H
   go_enter Try.func46, Try.ntmps46
   go_wp2_with (first | ((with_reducible refine gate_dst (N := 2) rfl ?_); refine sh_E 2 25 #[.bool a0_0, .int .u64 a0_1, .int .u64 a0_2] ?_; intro gb145 hg w15 hbox hb; have BK145 := Aside0.mk hbox; have GW145 := sh_G HB hg; have GE145 := GW145; replace HB := sh_S HB hb; clear hb hbox hg; obtain ⟨hcz16_0, hcz16_1, hcz16_2⟩ := MBlk.c3 BK145.out; obtain ⟨hfz16_0, hfz16_1, hfz16_2⟩ := MBlk.f3 BK145.out) | ((with_reducible refine gate_callee (f := 59) rfl ?_); refine sh_C 9 Try.func59 #[.agg #[.bool a0_0, .int .u64 a0_1, .int .u64 a0_2]] ?_; (with_reducible refine (addr_Class.calls a0_0 a0_1 a0_2 t146 _ A3.out).mono ?_); rintro e w17 ⟨rfl, hb⟩; refine ⟨_, rfl, ?_⟩; replace BK145 := sh_L BK145 hb; replace HB := sh_S HB hb; (try clear hb); (try clear hb2); (try clear hk); (try clear hi); obtain ⟨hcz18_0, hcz18_1, hcz18_2⟩ := MBlk.c3 BK145.out; obtain ⟨hfz18_0, hfz18_1, hfz18_2⟩ := MBlk.f3 BK145.out) | ((with_reducible refine gate_callee (f := 47) rfl ?_); refine sh_C 13 Try.func47 #[.agg #[.bool a0_0, .int .u64 a0_1, .int .u64 a0_2], .int .i64 a1] ?_; (with_reducible refine (prefix_Of.calls a0_0 a0_1 a0_2 a1 t147 t148 t149 t150 t151 _ A4.out).mono ?_); rintro e w19 ⟨rfl, hb⟩; refine ⟨_, rfl, ?_⟩; replace BK145 := sh_L BK145 hb; replace HB := sh_S HB hb; (try clear hb); (try clear hb2); (try clear hk); (try clear hi)) | ((with_reducible refine gate_dst (N := 6) rfl ?_); refine sh_E 6 83 #[.bool false, .int .u64 0, .int .u64 0, .int .i64 0] ?_; intro gb152 hg w20 hbox hb; have BK152 := Aside0.mk hbox; have GW152 := sh_G HB hg; have GE152 := GW152; replace HB := sh_S HB hb; have NB145_152 := sh_N BK145 hg; have NB152_145 := sh_M BK145 hg; replace BK145 := sh_L BK145 hb; clear hb hbox hg; have hnb21 := NB152_145.out; have hnc21 := NB145_152.out; obtain ⟨hcz22_0, hcz22_1, hcz22_2, hcz22_3⟩ := MBlk.c4 BK152.out; obtain ⟨hfz22_0, hfz22_1, hfz22_2, hfz22_3⟩ := MBlk.f4 BK152.out))
   go_ret
   exact ⟨by first | rfl | (simp [errW_none, errW_some] <;> rfl) | (simp [*, errW_none, errW_some] <;> rfl), by repeat (first | (with_reducible first | exact HB.out | apply below_alloc | apply pw_below_drewN | apply below_drew1 | refine below_set ?_ GE145.out | refine below_set ?_ GE152.out) | exact HB.out)⟩
 ·
  rw [if_neg c5] at H
  have c5b0 : (t146 == 2) = false := beq_eq_false_iff_ne.mpr c5
  have c5b1 : (t146 != 2) = true := bne_iff_ne.mpr c5
  by_cases c23 : t146 = 5
  ·
   rw [if_pos c23] at H
   have c23b0 : (t146 == 5) = true := beq_iff_eq.mpr c23
   have c23b1 : (t146 != 5) = false := bne_eq_false_iff_eq.mpr c23
   clear c23
   by_cases c24 : t151 = 0
   ·
    rw [if_pos c24] at H
    have c24b0 : (t151 == 0) = true := beq_iff_eq.mpr c24
    have c24b1 : (t151 != 0) = false := bne_eq_false_iff_eq.mpr c24
    clear c24
    obtain rfl := Option.some.inj H
    go_enter Try.func46, Try.ntmps46
    go_wp2_with (first | ((with_reducible refine gate_dst (N := 2) rfl ?_); refine sh_E 2 25 #[.bool a0_0, .int .u64 a0_1, .int .u64 a0_2] ?_; intro gb145 hg w25 hbox hb; have BK145 := Aside0.mk hbox; have GW145 := sh_G HB hg; have GE145 := GW145; replace HB := sh_S HB hb; clear hb hbox hg; obtain ⟨hcz26_0, hcz26_1, hcz26_2⟩ := MBlk.c3 BK145.out; obtain ⟨hfz26_0, hfz26_1, hfz26_2⟩ := MBlk.f3 BK145.out) | ((with_reducible refine gate_callee (f := 59) rfl ?_); refine sh_C 9 Try.func59 #[.agg #[.bool a0_0, .int .u64 a0_1, .int .u64 a0_2]] ?_; (with_reducible refine (addr_Class.calls a0_0 a0_1 a0_2 t146 _ A3.out).mono ?_); rintro e w27 ⟨rfl, hb⟩; refine ⟨_, rfl, ?_⟩; replace BK145 := sh_L BK145 hb; replace HB := sh_S HB hb; (try clear hb); (try clear hb2); (try clear hk); (try clear hi); obtain ⟨hcz28_0, hcz28_1, hcz28_2⟩ := MBlk.c3 BK145.out; obtain ⟨hfz28_0, hfz28_1, hfz28_2⟩ := MBlk.f3 BK145.out) | ((with_reducible refine gate_callee (f := 47) rfl ?_); refine sh_C 13 Try.func47 #[.agg #[.bool a0_0, .int .u64 a0_1, .int .u64 a0_2], .int .i64 a1] ?_; (with_reducible refine (prefix_Of.calls a0_0 a0_1 a0_2 a1 t147 t148 t149 t150 t151 _ A4.out).mono ?_); rintro e w29 ⟨rfl, hb⟩; refine ⟨_, rfl, ?_⟩; replace BK145 := sh_L BK145 hb; replace HB := sh_S HB hb; (try clear hb); (try clear hb2); (try clear hk); (try clear hi)) | ((with_reducible refine gate_dst (N := 6) rfl ?_); refine sh_E 6 83 #[.bool false, .int .u64 0, .int .u64 0, .int .i64 0] ?_; intro gb152 hg w30 hbox hb; have BK152 := Aside0.mk hbox; have GW152 := sh_G HB hg; have GE152 := GW152; replace HB := sh_S HB hb; have NB145_152 := sh_N BK145 hg; have NB152_145 := sh_M BK145 hg; replace BK145 := sh_L BK145 hb; clear hb hbox hg; have hnb31 := NB152_145.out; have hnc31 := NB145_152.out; obtain ⟨hcz32_0, hcz32_1, hcz32_2, hcz32_3⟩ := MBlk.c4 BK152.out; obtain ⟨hfz32_0, hfz32_1, hfz32_2, hfz32_3⟩ := MBlk.f4 BK152.out))
    go_ret
    exact ⟨by first | rfl | (simp [errW_none, errW_some] <;> rfl) | (simp [*, errW_none, errW_some] <;> rfl), by repeat (first | (with_reducible first | exact HB.out | apply below_alloc | apply pw_below_drewN | apply below_drew1 | refine below_set ?_ GE145.out | refine below_set ?_ GE152.out) | exact HB.out)⟩
   ·
    rw [if_neg c24] at H
    have c24b0 : (t151 == 0) = false := beq_eq_false_iff_ne.mpr c24
    have c24b1 : (t151 != 0) = true := bne_iff_ne.mpr c24
    obtain rfl := Option.some.inj H
    go_enter Try.func46, Try.ntmps46
    go_wp2_with (first | ((with_reducible refine gate_dst (N := 2) rfl ?_); refine sh_E 2 25 #[.bool a0_0, .int .u64 a0_1, .int .u64 a0_2] ?_; intro gb145 hg w33 hbox hb; have BK145 := Aside0.mk hbox; have GW145 := sh_G HB hg; have GE145 := GW145; replace HB := sh_S HB hb; clear hb hbox hg; obtain ⟨hcz34_0, hcz34_1, hcz34_2⟩ := MBlk.c3 BK145.out; obtain ⟨hfz34_0, hfz34_1, hfz34_2⟩ := MBlk.f3 BK145.out) | ((with_reducible refine gate_callee (f := 59) rfl ?_); refine sh_C 9 Try.func59 #[.agg #[.bool a0_0, .int .u64 a0_1, .int .u64 a0_2]] ?_; (with_reducible refine (addr_Class.calls a0_0 a0_1 a0_2 t146 _ A3.out).mono ?_); rintro e w35 ⟨rfl, hb⟩; refine ⟨_, rfl, ?_⟩; replace BK145 := sh_L BK145 hb; replace HB := sh_S HB hb; (try clear hb); (try clear hb2); (try clear hk); (try clear hi); obtain ⟨hcz36_0, hcz36_1, hcz36_2⟩ := MBlk.c3 BK145.out; obtain ⟨hfz36_0, hfz36_1, hfz36_2⟩ := MBlk.f3 BK145.out) | ((with_reducible refine gate_callee (f := 47) rfl ?_); refine sh_C 13 Try.func47 #[.agg #[.bool a0_0, .int .u64 a0_1, .int .u64 a0_2], .int .i64 a1] ?_; (with_reducible refine (prefix_Of.calls a0_0 a0_1 a0_2 a1 t147 t148 t149 t150 t151 _ A4.out).mono ?_); rintro e w37 ⟨rfl, hb⟩; refine ⟨_, rfl, ?_⟩; replace BK145 := sh_L BK145 hb; replace HB := sh_S HB hb; (try clear hb); (try clear hb2); (try clear hk); (try clear hi)) | ((with_reducible refine gate_dst (N := 6) rfl ?_); refine sh_E 6 83 #[.bool false, .int .u64 0, .int .u64 0, .int .i64 0] ?_; intro gb152 hg w38 hbox hb; have BK152 := Aside0.mk hbox; have GW152 := sh_G HB hg; have GE152 := GW152; replace HB := sh_S HB hb; have NB145_152 := sh_N BK145 hg; have NB152_145 := sh_M BK145 hg; replace BK145 := sh_L BK145 hb; clear hb hbox hg; have hnb39 := NB152_145.out; have hnc39 := NB145_152.out; obtain ⟨hcz40_0, hcz40_1, hcz40_2, hcz40_3⟩ := MBlk.c4 BK152.out; obtain ⟨hfz40_0, hfz40_1, hfz40_2, hfz40_3⟩ := MBlk.f4 BK152.out))
    go_ret
    exact ⟨by first | rfl | (simp [errW_none, errW_some] <;> rfl) | (simp [*, errW_none, errW_some] <;> rfl), by repeat (first | (with_reducible first | exact HB.out | apply below_alloc | apply pw_below_drewN | apply below_drew1 | refine below_set ?_ GE145.out | refine below_set ?_ GE152.out) | exact HB.out)⟩
  ·
   rw [if_neg c23] at H
   have c23b0 : (t146 == 5) = false := beq_eq_false_iff_ne.mpr c23
   have c23b1 : (t146 != 5) = true := bne_iff_ne.mpr c23
   obtain rfl := Option.some.inj H
   go_enter Try.func46, Try.ntmps46
   go_wp2_with (first | ((with_reducible refine gate_dst (N := 2) rfl ?_); refine sh_E 2 25 #[.bool a0_0, .int .u64 a0_1, .int .u64 a0_2] ?_; intro gb145 hg w41 hbox hb; have BK145 := Aside0.mk hbox; have GW145 := sh_G HB hg; have GE145 := GW145; replace HB := sh_S HB hb; clear hb hbox hg; obtain ⟨hcz42_0, hcz42_1, hcz42_2⟩ := MBlk.c3 BK145.out; obtain ⟨hfz42_0, hfz42_1, hfz42_2⟩ := MBlk.f3 BK145.out) | ((with_reducible refine gate_callee (f := 59) rfl ?_); refine sh_C 9 Try.func59 #[.agg #[.bool a0_0, .int .u64 a0_1, .int .u64 a0_2]] ?_; (with_reducible refine (addr_Class.calls a0_0 a0_1 a0_2 t146 _ A3.out).mono ?_); rintro e w43 ⟨rfl, hb⟩; refine ⟨_, rfl, ?_⟩; replace BK145 := sh_L BK145 hb; replace HB := sh_S HB hb; (try clear hb); (try clear hb2); (try clear hk); (try clear hi); obtain ⟨hcz44_0, hcz44_1, hcz44_2⟩ := MBlk.c3 BK145.out; obtain ⟨hfz44_0, hfz44_1, hfz44_2⟩ := MBlk.f3 BK145.out) | ((with_reducible refine gate_callee (f := 47) rfl ?_); refine sh_C 13 Try.func47 #[.agg #[.bool a0_0, .int .u64 a0_1, .int .u64 a0_2], .int .i64 a1] ?_; (with_reducible refine (prefix_Of.calls a0_0 a0_1 a0_2 a1 t147 t148 t149 t150 t151 _ A4.out).mono ?_); rintro e w45 ⟨rfl, hb⟩; refine ⟨_, rfl, ?_⟩; replace BK145 := sh_L BK145 hb; replace HB := sh_S HB hb; (try clear hb); (try clear hb2); (try clear hk); (try clear hi)) | ((with_reducible refine gate_dst (N := 6) rfl ?_); refine sh_E 6 83 #[.bool false, .int .u64 0, .int .u64 0, .int .i64 0] ?_; intro gb152 hg w46 hbox hb; have BK152 := Aside0.mk hbox; have GW152 := sh_G HB hg; have GE152 := GW152; replace HB := sh_S HB hb; have NB145_152 := sh_N BK145 hg; have NB152_145 := sh_M BK145 hg; replace BK145 := sh_L BK145 hb; clear hb hbox hg; have hnb47 := NB152_145.out; have hnc47 := NB145_152.out; obtain ⟨hcz48_0, hcz48_1, hcz48_2, hcz48_3⟩ := MBlk.c4 BK152.out; obtain ⟨hfz48_0, hfz48_1, hfz48_2, hfz48_3⟩ := MBlk.f4 BK152.out))
   go_ret
   exact ⟨by first | rfl | (simp [errW_none, errW_some] <;> rfl) | (simp [*, errW_none, errW_some] <;> rfl), by repeat (first | (with_reducible first | exact HB.out | apply below_alloc | apply pw_below_drewN | apply below_drew1 | refine below_set ?_ GE145.out | refine below_set ?_ GE152.out) | exact HB.out)⟩

-- NOT PRINTED: function 25 (iface_Set_Put)

-- NOT PRINTED: function 8 (crosswaylaw14_awake)

-- NOT PRINTED: function 51 (api_Local_51)

-- NOT PRINTED: function 31 (iface_Set_Drop)

-- NOT PRINTED: function 15 (crosswaylaw14_Do)

-- NOT PRINTED: function 9 (crosswaylaw14_Made)

-- NOT PRINTED: function 3 (crosswaylaw14_IfaceSpeaks)

/-- A state of type 75 at block g of W; what its slices lead to came in by w0. -/
def IsS75 (w0 W : World) (g : Nat) (f0 : List (S50)) (f1 : List (List (S34))) : Prop := ∃ A0 c0, ∃ A1 c1, W.heap[g]? = some (.cells #[.slice A0 f0.length c0, .slice A1 f1.length c1] 75 (0, 0)) ∧ w0.heap.size ≤ g ∧ Kd.C k50 w0 A0 f0.length f0 ∧ Kd.C (Kd.slice 34 k34) w0 A1 f1.length f1
theorem IsS75.grown {w0 W : World} {g : Nat} {f0 : List (S50)} {f1 : List (List (S34))} {W1 : World} {row : Option Nat} (h : IsS75 w0 W g f0 f1) (hw : W.grownBy W1 row) (hne : some g ≠ row) : IsS75 w0 W1 g f0 f1 := by
 obtain ⟨A0, c0, A1, c1, hb, hg, hr0, hr1⟩ := h
 exact ⟨A0, c0, A1, c1, blk_grown hb hw hne, hg, hr0, hr1⟩
theorem IsS75.own_neN {w0 W : World} {g : Nat} {f0 : List (S50)} {f1 : List (List (S34))} {α : Type} {d : Kd α} {e : Nat} {base : Nat} {ok : Nat → Prop} {v : Value} {xs : List α} (h : IsS75 w0 W g f0 f1) (ho : Kd.N d e W base ok v xs) (ht : e ≠ 75) : some g ≠ v.ownBlock := by
 obtain ⟨A0, c0, A1, c1, hb, hg, hr0, hr1⟩ := h
 exact Kd.N_ne ho hb ht
theorem IsS75.fresh {w0 W : World} {g : Nat} {f0 : List (S50)} {f1 : List (List (S34))} (h : IsS75 w0 W g f0 f1) : ∀ k, W.heap.size ≤ k → k ≠ g := by
 obtain ⟨A0, c0, A1, c1, hb, hg, hr0, hr1⟩ := h
 exact Kd.freshB hb
theorem IsS75.kept {w0 W : World} {g : Nat} {f0 : List (S50)} {f1 : List (List (S34))} {W1 : World} {S : Nat → Prop} (h : IsS75 w0 W g f0 f1) (hk : Kept W W1 S) (hne : ¬ S g) : IsS75 w0 W1 g f0 f1 := by
 obtain ⟨A0, c0, A1, c1, hb, hg, hr0, hr1⟩ := h
 exact ⟨A0, c0, A1, c1, blk_kept hb hk hne, hg, hr0, hr1⟩
theorem IsS75.below {w0 W : World} {g : Nat} {f0 : List (S50)} {f1 : List (List (S34))} {W1 : World} (h : IsS75 w0 W g f0 f1) (hw : Below W.heap.size W W1) : IsS75 w0 W1 g f0 f1 := h.grown (grown_of_below hw none) (by simp)
theorem IsS75.alloc {w0 W : World} {g : Nat} {f0 : List (S50)} {f1 : List (List (S34))} (h : IsS75 w0 W g f0 f1) (o : Obj) : IsS75 w0 (W.alloc o) g f0 f1 := h.below (below_alloc (Below.refl _ _) o)
theorem IsS75.drewN {w0 W : World} {g : Nat} {f0 : List (S50)} {f1 : List (List (S34))} (h : IsS75 w0 W g f0 f1) (m : Nat) : IsS75 w0 (W.drewN m) g f0 f1 := h
theorem IsS75.drew {w0 W : World} {g : Nat} {f0 : List (S50)} {f1 : List (List (S34))} (h : IsS75 w0 W g f0 f1) : IsS75 w0 W.drew g f0 f1 := h
theorem IsS75.at_ {w0 W : World} {g : Nat} {f0 : List (S50)} {f1 : List (List (S34))} {w' : World} {m : Nat} (hq : W.drewN m = w') (h : IsS75 w0 W g f0 f1) : IsS75 w0 w' g f0 f1 := by subst hq; exact IsS75.drewN h m
theorem IsS75.apart {w0 W : World} {g : Nat} {f0 : List (S50)} {f1 : List (List (S34))} {α : Type} {d : Kd α} {e : Nat} {base : Nat} {ok : Nat → Prop} {v : Value} {xs : List α} (h : IsS75 w0 W g f0 f1) (ho : d.R e W base ok v xs) (ht : ∀ q, q ∈ e :: d.E → q ≠ 75) : d.R e W base (fun k => ok k ∧ k ≠ g) v xs := by
 obtain ⟨A0, c0, A1, c1, hb, hg, hr0, hr1⟩ := h
 exact Kd.R_types ho hb ht
theorem IsS75.own_ne {w0 W : World} {g : Nat} {f0 : List (S50)} {f1 : List (List (S34))} {α : Type} {d : Kd α} {e : Nat} {base : Nat} {ok : Nat → Prop} {v : Value} {xs : List α} (h : IsS75 w0 W g f0 f1) (ho : d.R e W base ok v xs) (ht : e ≠ 75) : some g ≠ v.ownBlock := by
 obtain ⟨A0, c0, A1, c1, hb, hg, hr0, hr1⟩ := h
 exact Kd.R_ne ho hb ht
theorem IsS75.apartQ {w0 W : World} {g : Nat} {f0 : List (S50)} {f1 : List (List (S34))} {α : Type} {d : Kd α} {e : Nat} {base : Nat} {ok : Nat → Prop} {v : Value} {xs : List α} (h : IsS75 w0 W g f0 f1) (ho : d.Q e W base ok v xs) (ht : ∀ q, q ∈ e :: d.E → q ≠ 75) : d.Q e W base (fun k => ok k ∧ k ≠ g) v xs := by
 obtain ⟨A0, c0, A1, c1, hb, hg, hr0, hr1⟩ := h
 exact Kd.Q_types ho hb ht
theorem IsS75.own_neQ {w0 W : World} {g : Nat} {f0 : List (S50)} {f1 : List (List (S34))} {α : Type} {d : Kd α} {e : Nat} {base : Nat} {ok : Nat → Prop} {v : Value} {xs : List α} (h : IsS75 w0 W g f0 f1) (ho : d.Q e W base ok v xs) (ht : e ≠ 75) : some g ≠ v.ownBlock := by
 obtain ⟨A0, c0, A1, c1, hb, hg, hr0, hr1⟩ := h
 exact Kd.Q_ne ho hb ht
theorem IsS75.apartS {w0 W : World} {g : Nat} {f0 : List (S50)} {f1 : List (List (S34))} {α : Type} {d : Kd α} {e : Nat} {base : Nat} {ok : Nat → Prop} {v : Value} {xs : List α} (h : IsS75 w0 W g f0 f1) (ho : d.S e W base ok v xs) (ht : ∀ q, q ∈ e :: d.E → q ≠ 75) : d.S e W base (fun k => ok k ∧ k ≠ g) v xs := by
 obtain ⟨A0, c0, A1, c1, hb, hg, hr0, hr1⟩ := h
 exact Kd.S_types ho hb ht
theorem IsS75.own_neS {w0 W : World} {g : Nat} {f0 : List (S50)} {f1 : List (List (S34))} {α : Type} {d : Kd α} {e : Nat} {base : Nat} {ok : Nat → Prop} {v : Value} {xs : List α} (h : IsS75 w0 W g f0 f1) (ho : d.S e W base ok v xs) (ht : e ≠ 75) : some g ≠ v.ownBlock := by
 obtain ⟨A0, c0, A1, c1, hb, hg, hr0, hr1⟩ := h
 exact Kd.S_ne ho hb ht
theorem IsS75.lt {w0 W : World} {g : Nat} {f0 : List (S50)} {f1 : List (List (S34))} (h : IsS75 w0 W g f0 f1) : g < W.heap.size := by
 obtain ⟨A0, c0, A1, c1, hb, hg, hr0, hr1⟩ := h
 exact blk_lt hb
theorem IsS75.ge {w0 W : World} {g : Nat} {f0 : List (S50)} {f1 : List (List (S34))} (h : IsS75 w0 W g f0 f1) : w0.heap.size ≤ g := by
 obtain ⟨A0, c0, A1, c1, hb, hg, hr0, hr1⟩ := h
 exact hg
theorem IsS75.ne_blk {w0 W : World} {g : Nat} {f0 : List (S50)} {f1 : List (List (S34))} {a : Nat} {cs : Array Value} {t : TypeId} {fr : Nat × Nat} (h : IsS75 w0 W g f0 f1) (hb2 : W.heap[a]? = some (.cells cs t fr)) (ht : t ≠ 75) : g ≠ a := by
 obtain ⟨A0, c0, A1, c1, hb, hg, hr0, hr1⟩ := h
 rintro rfl
 rw [hb] at hb2
 injection hb2 with hb2
 injection hb2 with _ ht2
 exact ht ht2.symm
theorem IsS75.far {w0 W : World} {g : Nat} {f0 : List (S50)} {f1 : List (List (S34))} {p : Addr} (h : IsS75 w0 W g f0 f1) (hne : g ≠ p.block) (u : Value) : IsS75 w0 (W.setCell p u) g f0 f1 := by
 obtain ⟨A0, c0, A1, c1, hb, hg, hr0, hr1⟩ := h
 exact ⟨A0, c0, A1, c1, blk_far hb hne u, hg, hr0, hr1⟩
theorem cellS75_0 {W : World} {g : Nat} {A0 : Option Addr} {c0 : Nat} {A1 : Option Addr} {c1 : Nat} {f0 : List (S50)} {f1 : List (List (S34))} (h : W.heap[g]? = some (.cells #[.slice A0 f0.length c0, .slice A1 f1.length c1] 75 (0, 0))) : W.cell? ⟨g, 0, none⟩ = some (.slice A0 f0.length c0) := (blk_cell h 0).trans rfl
theorem cellS75_1 {W : World} {g : Nat} {A0 : Option Addr} {c0 : Nat} {A1 : Option Addr} {c1 : Nat} {f0 : List (S50)} {f1 : List (List (S34))} (h : W.heap[g]? = some (.cells #[.slice A0 f0.length c0, .slice A1 f1.length c1] 75 (0, 0))) : W.cell? ⟨g, 1, none⟩ = some (.slice A1 f1.length c1) := (blk_cell h 1).trans rfl
theorem IsS75.new (w0 W : World) (A0 : Option Addr) (c0 : Nat) (A1 : Option Addr) (c1 : Nat) (f0 : List (S50)) (f1 : List (List (S34))) (hB : Below w0.heap.size w0 W) (hr0 : Kd.C k50 w0 A0 f0.length f0) (hr1 : Kd.C (Kd.slice 34 k34) w0 A1 f1.length f1) : IsS75 w0 (W.alloc (.cells #[.slice A0 f0.length c0, .slice A1 f1.length c1] 75)) W.heap.size f0 f1 := ⟨A0, c0, A1, c1, by simpa using heap_alloc_new W _, hB.size, hr0, hr1⟩

/-! ### crosswayref14_New: function 14 -/
def crosswayref14_New.f  : Option ((List (S50)) × (List (List (S34)))) := some (([] : List (S50)), ([] : List (List (S34))))
set_option maxHeartbeats 8000000 in
set_option maxRecDepth 100000 in
theorem crosswayref14_New.calls  (r1 : List (S50)) (r2 : List (List (S34))) (w0 w : World) (hB : Below w0.heap.size w0 w) (h : crosswayref14_New.f  = some (r1, r2)) :
  Calls Try.prog 14 #[] w fun e w' => ∃ g_ : Nat, e = .returned (.pointer (some ⟨g_, 0, none⟩)) ∧ IsS75 w0 w' g_ r1 r2 ∧ Below w0.heap.size w0 w' ∧ Below w.heap.size w w' := by
 have hu75 := Try.underlying75
 have HBW := Aside0.mk (Below.refl w.heap.size w)
 have HW0 := Aside0.mk hB.size
 have HB := Aside0.mk hB
 clear hB
 have H : (some (([] : List (S50)), ([] : List (List (S34))))) = some (r1, r2) := h
 clear h
 simp only [Option.some.injEq, Prod.mk.injEq] at H
 obtain ⟨rfl, rfl⟩ := H
 go_enter Try.func14, Try.ntmps14
 go_wp2_with (first | ((with_reducible refine gate_dst (N := 2) rfl ?_); refine sh_E 2 75 #[.slice none 0 0, .slice none 0 0] ?_; intro gb154 hg w1 hbox hb; have n0_ := Aside0.mk (below_step HBW.out hb); have n1_ := sh_S HB hb; have n2_ := Aside0.mk hbox; have n3_ := sh_G HBW hg; have n4_ := Aside0.mk ((Nat.le_trans HW0.out (by rw [hg]; exact (below_size (sh_B HBW)) : w.heap.size ≤ gb154) : w0.heap.size ≤ gb154)); clear HBW; clear HB; have HBW := n0_; have HB := n1_; have BK154 := n2_; have GW154 := n3_; have GE154 := n4_; clear n0_ n1_ n2_ n3_ n4_; clear hb hbox hg))
 go_ret
 exact ⟨_, rfl, (show IsS75 w0 _ gb154 ([] : List (S50)) ([] : List (List (S34))) from ⟨none, 0, none, 0, by (with_reducible repeat (first | refine blk_drewN ?_ _ | refine blk_drew ?_ | refine blk_alloc ?_ _)); exact BK154.out, GE154.out, (Kd.C_nil _ _), (Kd.C_nil _ _)⟩), by repeat (first | (with_reducible first | exact HB.out | apply below_alloc | apply pw_below_drewN | apply below_drew1 | refine below_set ?_ GE154.out) | exact HB.out), by repeat (first | (with_reducible first | exact HBW.out | apply below_alloc | apply pw_below_drewN | apply below_drew1 | refine below_set ?_ GW154.out) | exact HBW.out)⟩

-- NOT PRINTED: function 42 (crosswayref14_Set_Named)

end Go.Proofs.Ytefbcigccfkkgaa.PBase
