/- Functions of the program as Lean functions, each with a proof that a call comes to what it says. Conditions: those of each theorem. Laid by a program of this session. -/
import Derived.Test.YtedampcicmaamaaPBasex0
import Derived.Test.YtedampcicmaamaaPBasex9
import Derived.Test.YtedampcicmaamaaPBasex10
import Derived.Test.YtedampcicmaamaaPBasex11
import Derived.Test.YtedampcicmaamaaPBasex13
namespace Go.Proofs.Ytedampcicmaamaa.PBase
open Go.RowKit Go.Proofs.Ytedampcicmaamaa Go.Proofs.YtedampcicmaamaaW.PrintWords Go.Proofs.YtedampcicmaamaaW.PrintLast Go.Proofs.YtedampcicmaamaaW.PrintMore
attribute [local go_sem] max2_int min2_int max_two min_two max_three min_three max_four min_four   -- for this text's walks alone
set_option linter.unusedVariables false
set_option linter.unusedSimpArgs false

/-! ### crosswayref06_Take: function 12 (by hand) -/
/-- Blocks that are known whole; nothing below wb has changed. -/
structure BS (wb : World) (bs : List (Nat × Obj)) (W : World) : Prop where mk ::
 (keep : ∀ x ∈ bs, W.heap[x.1]? = some x.2)
 (below : Below wb.heap.size wb W)
section
variable {wb W W2 : World} {bs : List (Nat × Obj)}
theorem BS.more (h : BS wb bs W) (hb : Below W.heap.size W W2) : BS wb bs W2 := ⟨fun x hx => MStr.block_below (h.keep x hx) hb, below_then h.below h.below.size hb⟩
theorem BS.drew (h : BS wb bs W) : BS wb bs W.drew := h.more (below_drew1 (Below.refl _ _))
theorem BS.drewN (h : BS wb bs W) (n : Nat) : BS wb bs (W.drewN n) := h.more (pw_below_drewN (Below.refl _ _) n)
theorem BS.alloc (h : BS wb bs W) (o : Obj) : BS wb ((W.heap.size, o) :: bs) (W.alloc o) := by
 have h2 := h.more (W2 := W.alloc o) (below_alloc (Below.refl _ _) o)
 refine ⟨fun x hx => ?_, h2.below⟩
 rcases List.mem_cons.1 hx with rfl | hx
 · exact heap_alloc_new W o
 · exact h2.keep x hx
theorem BS.set {gp t : Nat} {cs : Array Value} (h : BS wb ((gp, .cells cs t (0, 0)) :: bs) W) (hge : wb.heap.size ≤ gp) (hne : ∀ x ∈ bs, x.1 ≠ gp) (j : Nat) (v : Value) :
  BS wb ((gp, .cells (cs.setIfInBounds j v) t (0, 0)) :: bs) (W.setCell ⟨gp, j, none⟩ v) := by
 have h1 := h.keep _ (List.mem_cons_self ..)
 refine ⟨fun x hx => ?_, below_set h.below hge⟩
 rcases List.mem_cons.1 hx with rfl | hx
 · exact MReader.setCell_heap h1
 · exact (Below.heap_setCell W ⟨gp, j, none⟩ v x.1 (hne x hx)).trans (h.keep x (List.mem_cons_of_mem _ hx))
theorem BS.set' {gp t : Nat} {cs cs2 : Array Value} (h : BS wb ((gp, .cells cs t (0, 0)) :: bs) W) (hge : wb.heap.size ≤ gp) (hne : ∀ x ∈ bs, x.1 ≠ gp) (j : Nat) (v : Value) (he : cs.setIfInBounds j v = cs2) :
  BS wb ((gp, .cells cs2 t (0, 0)) :: bs) (W.setCell ⟨gp, j, none⟩ v) := he ▸ h.set hge hne j v
theorem BS.cell (h : BS wb bs W) {gp t j : Nat} {cs : Array Value} {v : Value} (hm : (gp, Obj.cells cs t (0, 0)) ∈ bs) (hj : cs[j]? = some v) : W.cell? ⟨gp, j, none⟩ = some v := MStr.block_cell (h.keep _ hm) hj
theorem BS.free (h : BS wb bs W) {gp t : Nat} (j : Nat) {cs : Array Value} (hm : (gp, Obj.cells cs t (0, 0)) ∈ bs) : W.frozen? ⟨gp, j, none⟩ = false := MStr.block_frozen (h.keep _ hm)
end

theorem BS.all15 {gp t : Nat} {wb W : World} {bs : List (Nat × Obj)} {v0 v1 v2 v3 v4 v5 v6 v7 v8 v9 v10 v11 v12 v13 v14 : Value} (h : BS wb ((gp, .cells #[v0, v1, v2, v3, v4, v5, v6, v7, v8, v9, v10, v11, v12, v13, v14] t (0, 0)) :: bs)  W) (hge : wb.heap.size ≤ gp) (hne : ∀ x ∈ bs, x.1 ≠ gp) (b0 b1 b2 b3 b4 b5 b6 b7 b8 b9 b10 b11 b12 b13 b14 : Value) : BS wb ((gp, .cells #[b0, b1, b2, b3, b4, b5, b6, b7, b8, b9, b10, b11, b12, b13, b14] t (0, 0)) :: bs)  (((((((((((((((W.setCell ⟨gp, 0, none⟩ b0).setCell ⟨gp, 1, none⟩ b1).setCell ⟨gp, 2, none⟩ b2).setCell ⟨gp, 3, none⟩ b3).setCell ⟨gp, 4, none⟩ b4).setCell ⟨gp, 5, none⟩ b5).setCell ⟨gp, 6, none⟩ b6).setCell ⟨gp, 7, none⟩ b7).setCell ⟨gp, 8, none⟩ b8).setCell ⟨gp, 9, none⟩ b9).setCell ⟨gp, 10, none⟩ b10).setCell ⟨gp, 11, none⟩ b11).setCell ⟨gp, 12, none⟩ b12).setCell ⟨gp, 13, none⟩ b13).setCell ⟨gp, 14, none⟩ b14) := by
 replace h := h.set hge hne 0 b0
 rw [show (#[v0, v1, v2, v3, v4, v5, v6, v7, v8, v9, v10, v11, v12, v13, v14] : Array Value).setIfInBounds 0 b0 = #[b0, v1, v2, v3, v4, v5, v6, v7, v8, v9, v10, v11, v12, v13, v14] from rfl] at h
 replace h := h.set hge hne 1 b1
 rw [show (#[b0, v1, v2, v3, v4, v5, v6, v7, v8, v9, v10, v11, v12, v13, v14] : Array Value).setIfInBounds 1 b1 = #[b0, b1, v2, v3, v4, v5, v6, v7, v8, v9, v10, v11, v12, v13, v14] from rfl] at h
 replace h := h.set hge hne 2 b2
 rw [show (#[b0, b1, v2, v3, v4, v5, v6, v7, v8, v9, v10, v11, v12, v13, v14] : Array Value).setIfInBounds 2 b2 = #[b0, b1, b2, v3, v4, v5, v6, v7, v8, v9, v10, v11, v12, v13, v14] from rfl] at h
 replace h := h.set hge hne 3 b3
 rw [show (#[b0, b1, b2, v3, v4, v5, v6, v7, v8, v9, v10, v11, v12, v13, v14] : Array Value).setIfInBounds 3 b3 = #[b0, b1, b2, b3, v4, v5, v6, v7, v8, v9, v10, v11, v12, v13, v14] from rfl] at h
 replace h := h.set hge hne 4 b4
 rw [show (#[b0, b1, b2, b3, v4, v5, v6, v7, v8, v9, v10, v11, v12, v13, v14] : Array Value).setIfInBounds 4 b4 = #[b0, b1, b2, b3, b4, v5, v6, v7, v8, v9, v10, v11, v12, v13, v14] from rfl] at h
 replace h := h.set hge hne 5 b5
 rw [show (#[b0, b1, b2, b3, b4, v5, v6, v7, v8, v9, v10, v11, v12, v13, v14] : Array Value).setIfInBounds 5 b5 = #[b0, b1, b2, b3, b4, b5, v6, v7, v8, v9, v10, v11, v12, v13, v14] from rfl] at h
 replace h := h.set hge hne 6 b6
 rw [show (#[b0, b1, b2, b3, b4, b5, v6, v7, v8, v9, v10, v11, v12, v13, v14] : Array Value).setIfInBounds 6 b6 = #[b0, b1, b2, b3, b4, b5, b6, v7, v8, v9, v10, v11, v12, v13, v14] from rfl] at h
 replace h := h.set hge hne 7 b7
 rw [show (#[b0, b1, b2, b3, b4, b5, b6, v7, v8, v9, v10, v11, v12, v13, v14] : Array Value).setIfInBounds 7 b7 = #[b0, b1, b2, b3, b4, b5, b6, b7, v8, v9, v10, v11, v12, v13, v14] from rfl] at h
 replace h := h.set hge hne 8 b8
 rw [show (#[b0, b1, b2, b3, b4, b5, b6, b7, v8, v9, v10, v11, v12, v13, v14] : Array Value).setIfInBounds 8 b8 = #[b0, b1, b2, b3, b4, b5, b6, b7, b8, v9, v10, v11, v12, v13, v14] from rfl] at h
 replace h := h.set hge hne 9 b9
 rw [show (#[b0, b1, b2, b3, b4, b5, b6, b7, b8, v9, v10, v11, v12, v13, v14] : Array Value).setIfInBounds 9 b9 = #[b0, b1, b2, b3, b4, b5, b6, b7, b8, b9, v10, v11, v12, v13, v14] from rfl] at h
 replace h := h.set hge hne 10 b10
 rw [show (#[b0, b1, b2, b3, b4, b5, b6, b7, b8, b9, v10, v11, v12, v13, v14] : Array Value).setIfInBounds 10 b10 = #[b0, b1, b2, b3, b4, b5, b6, b7, b8, b9, b10, v11, v12, v13, v14] from rfl] at h
 replace h := h.set hge hne 11 b11
 rw [show (#[b0, b1, b2, b3, b4, b5, b6, b7, b8, b9, b10, v11, v12, v13, v14] : Array Value).setIfInBounds 11 b11 = #[b0, b1, b2, b3, b4, b5, b6, b7, b8, b9, b10, b11, v12, v13, v14] from rfl] at h
 replace h := h.set hge hne 12 b12
 rw [show (#[b0, b1, b2, b3, b4, b5, b6, b7, b8, b9, b10, b11, v12, v13, v14] : Array Value).setIfInBounds 12 b12 = #[b0, b1, b2, b3, b4, b5, b6, b7, b8, b9, b10, b11, b12, v13, v14] from rfl] at h
 replace h := h.set hge hne 13 b13
 rw [show (#[b0, b1, b2, b3, b4, b5, b6, b7, b8, b9, b10, b11, b12, v13, v14] : Array Value).setIfInBounds 13 b13 = #[b0, b1, b2, b3, b4, b5, b6, b7, b8, b9, b10, b11, b12, b13, v14] from rfl] at h
 replace h := h.set hge hne 14 b14
 rw [show (#[b0, b1, b2, b3, b4, b5, b6, b7, b8, b9, b10, b11, b12, b13, v14] : Array Value).setIfInBounds 14 b14 = #[b0, b1, b2, b3, b4, b5, b6, b7, b8, b9, b10, b11, b12, b13, b14] from rfl] at h
 exact h
theorem crosswayref06_Take.wu {n : Int} (h0 : 0 ≤ n) (h1 : n < 18446744073709551616) : IntKind.u64.wrap n = n := by
 simp only [IntKind.wrap, IntKind.signed, IntKind.bits, Bool.false_and, Bool.false_eq_true, if_false]; omega
/-- Nothing, and why. -/
def crosswayref06_Take.no (e : Int) : Int × Int × Bool × Bool × Int × Int × Int × Bool × Int × Int × Bool × Int × Int × ByteArray × ByteArray × Int := (0, 0, false, false, 0, 0, 0, false, 0, 0, false, 0, 0, ⟨#[]⟩, ⟨#[]⟩, e)
/-- What stands behind the tests of a header. -/
def crosswayref06_Take.rest (k : Nat) (s : ByteArray) (hd wh off : Int) : Option (Int × Int × Bool × Bool × Int × Int × Int × Bool × Int × Int × Bool × Int × Int × ByteArray × ByteArray × Int) :=
 (crosswayref06_num.f k s 1 1).bind fun tos => (crosswayref06_num.f k s 4 2).bind fun id => (crosswayref06_num.f k s 8 1).bind fun ttl => (crosswayref06_num.f k s 9 1).bind fun proto => (crosswayref06_num.f k s 12 4).bind fun src => (crosswayref06_num.f k s 16 4).bind fun dst =>
 (crosswayref06_Options.f k (s.extract 20 hd.toNat)).bind fun o =>
 if ¬ (0 ≤ off ∧ off ≤ 65535 ∧ 0 ≤ src ∧ src ≤ 4294967295 ∧ 0 ≤ dst ∧ dst ≤ 4294967295) then none else
 if ¬ o.2 = 0 then some (crosswayref06_Take.no o.2) else some (tos, id, off / 16384 == 1, off / 8192 % 2 == 1, off % 8192, ttl, proto, false, 0, src, false, 0, dst, s.extract 20 hd.toNat, s.extract hd.toNat wh.toNat, 0)
def crosswayref06_Take.f (k : Nat) (s : ByteArray) : Option (Int × Int × Bool × Bool × Int × Int × Int × Bool × Int × Int × Bool × Int × Int × ByteArray × ByteArray × Int) :=
 if (s.size : Int) < 20 then some (crosswayref06_Take.no 51) else (crosswayref06_num.f k s 0 1).bind fun first => if first < 69 ∨ first > 79 then some (crosswayref06_Take.no 50) else
 if (s.size : Int) < 4 * (first - 64) then some (crosswayref06_Take.no 51) else (crosswayref02_Sum.f k (bytesOf (s.extract 0 (4 * (first - 64)).toNat))).bind fun t => if ¬ t = 65535 then some (crosswayref06_Take.no 52) else
 (crosswayref06_num.f k s 2 2).bind fun wh => (crosswayref06_num.f k s 6 2).bind fun off => if ¬ (0 ≤ wh ∧ 0 ≤ off) then none else if wh < 4 * (first - 64) ∨ off ≥ 32768 then some (crosswayref06_Take.no 50) else if (s.size : Int) < wh then some (crosswayref06_Take.no 51) else
 crosswayref06_Take.rest k s (4 * (first - 64)) wh off
set_option maxHeartbeats 4000000 in
set_option maxRecDepth 100000 in
theorem crosswayref06_Take.short (s : ByteArray) (w : World) (h : (s.size : Int) < 20) :
  Calls Try.prog 12 #[.string s] w fun e w' => e = .returned (.tuple #[.agg #[.int .i64 0, .int .i64 0, .bool false, .bool false, .int .i64 0, .int .i64 0, .int .i64 0, .bool false, .int .u64 0, .int .u64 0, .bool false, .int .u64 0, .int .u64 0, .string ⟨#[]⟩, .string ⟨#[]⟩], .int .i64 51]) ∧ Below w.heap.size w w' := by
 have hu26 := Try.underlying26
 have hu24 := Try.underlying24
 go_enter Try.func12, Try.ntmps12
 go_wp2_with fail
 refine bodyPost_ret (results_ct rfl _ _ _ 26 #[.int .i64 0, .int .i64 0, .bool false, .bool false, .int .i64 0, .int .i64 0, .int .i64 0, .bool false, .int .u64 0, .int .u64 0, .bool false, .int .u64 0, .int .u64 0, .string ⟨#[]⟩, .string ⟨#[]⟩] (0, 0) _ rfl (heap_alloc_new w _) Try.underlying26 rfl (by kernel_rfl)) rfl ?_
 exact ⟨rfl, below_alloc (Below.refl _ _) _⟩
set_option maxHeartbeats 4000000 in
set_option maxRecDepth 100000 in
theorem crosswayref06_Take.form1 (k : Nat) (s : ByteArray) (first : Int) (w : World) (hs : 20 ≤ s.size) (h1 : crosswayref06_num.f k s 0 1 = some first) (hf : first < 69) :
  Calls Try.prog 12 #[.string s] w fun e w' => e = .returned (.tuple #[.agg #[.int .i64 0, .int .i64 0, .bool false, .bool false, .int .i64 0, .int .i64 0, .int .i64 0, .bool false, .int .u64 0, .int .u64 0, .bool false, .int .u64 0, .int .u64 0, .string ⟨#[]⟩, .string ⟨#[]⟩], .int .i64 50]) ∧ Below w.heap.size w w' := by
 obtain ⟨wb, hwb⟩ : ∃ wb, w.alloc (.cells #[.int .i64 0, .int .i64 0, .bool false, .bool false, .int .i64 0, .int .i64 0, .int .i64 0, .bool false, .int .u64 0, .int .u64 0, .bool false, .int .u64 0, .int .u64 0, .string ⟨#[]⟩, .string ⟨#[]⟩] 26) = wb := ⟨_, rfl⟩
 have HBW := Aside0.mk (show Below w.heap.size w wb by rw [← hwb]; exact below_alloc (Below.refl _ _) _)
 have HWS := Aside0.mk (show wb.heap.size = w.heap.size + 1 by rw [← hwb]; simp [go_sem])
 have HBS := Aside0.mk (show BS wb [(w.heap.size, .cells #[.int .i64 0, .int .i64 0, .bool false, .bool false, .int .i64 0, .int .i64 0, .int .i64 0, .bool false, .int .u64 0, .int .u64 0, .bool false, .int .u64 0, .int .u64 0, .string ⟨#[]⟩, .string ⟨#[]⟩] 26 (0, 0))] wb from ⟨fun x hx => by obtain rfl := List.mem_singleton.1 hx; rw [← hwb]; exact heap_alloc_new _ _, Below.refl _ _⟩)
 have hu26 := Try.underlying26
 have hu24 := Try.underlying24
 have kb := fun s W => print_bytes (P := Try.prog) 9 45 5 Try.underlying9 Try.underlying45 Try.underlying5 s W
 have H1 := Aside0.mk h1; clear h1
 go_enter Try.func12, Try.ntmps12
 go_wp2_with fail
 clear hwb
 refine (crosswayref06_num.calls k s 0 1 first _ H1.out).mono ?_
 rintro e w2 ⟨rfl, hb⟩
 replace HBS := Aside0.mk (BS.more (W := _) (by repeat (first | (with_reducible exact HBS.out) | apply BS.drew | apply BS.drewN)) hb)
 clear hb
 have HRES := Aside0.mk (HBS.out.keep _ (List.mem_cons_self ..))
 obtain ⟨f0, f1, f2, f3, f4, f5, f6, f7, f8, f9, f10, f11, f12, f13, f14⟩ := MBlk.f15 HRES.out
 obtain ⟨s0, s1, s2, s3, s4, s5, s6, s7, s8, s9, s10, s11, s12, s13, s14⟩ := MBlk.c15 HRES.out
 have HBE := Aside0.mk (below_step HBW.out HBS.out.below)
 have HG0 := Aside0.mk (Nat.le_refl w.heap.size)
 go_wp2_with fail
 refine bodyPost_ret (results_ct rfl _ _ _ 26 #[.int .i64 0, .int .i64 0, .bool false, .bool false, .int .i64 0, .int .i64 0, .int .i64 0, .bool false, .int .u64 0, .int .u64 0, .bool false, .int .u64 0, .int .u64 0, .string ⟨#[]⟩, .string ⟨#[]⟩] (0, 0) _ rfl (by have h_ := MBlk.put15 HRES.out (.int .i64 0) (.int .i64 0) (.bool false) (.bool false) (.int .i64 0) (.int .i64 0) (.int .i64 0) (.bool false) (.int .u64 0) (.int .u64 0) (.bool false) (.int .u64 0) (.int .u64 0) (.string ⟨#[]⟩) (.string ⟨#[]⟩); exact h_) Try.underlying26 rfl (by kernel_rfl)) rfl ?_
 exact ⟨rfl, by repeat (first | (with_reducible first | exact HBE.out | apply below_alloc | apply pw_below_drewN | apply below_drew1 | refine below_set ?_ HG0.out) | exact HBE.out)⟩
set_option maxHeartbeats 4000000 in
set_option maxRecDepth 100000 in
theorem crosswayref06_Take.form2 (k : Nat) (s : ByteArray) (first : Int) (w : World) (hs : 20 ≤ s.size) (h1 : crosswayref06_num.f k s 0 1 = some first) (hf : ¬ first < 69) (hf2 : 79 < first) :
  Calls Try.prog 12 #[.string s] w fun e w' => e = .returned (.tuple #[.agg #[.int .i64 0, .int .i64 0, .bool false, .bool false, .int .i64 0, .int .i64 0, .int .i64 0, .bool false, .int .u64 0, .int .u64 0, .bool false, .int .u64 0, .int .u64 0, .string ⟨#[]⟩, .string ⟨#[]⟩], .int .i64 50]) ∧ Below w.heap.size w w' := by
 obtain ⟨wb, hwb⟩ : ∃ wb, w.alloc (.cells #[.int .i64 0, .int .i64 0, .bool false, .bool false, .int .i64 0, .int .i64 0, .int .i64 0, .bool false, .int .u64 0, .int .u64 0, .bool false, .int .u64 0, .int .u64 0, .string ⟨#[]⟩, .string ⟨#[]⟩] 26) = wb := ⟨_, rfl⟩
 have HBW := Aside0.mk (show Below w.heap.size w wb by rw [← hwb]; exact below_alloc (Below.refl _ _) _)
 have HWS := Aside0.mk (show wb.heap.size = w.heap.size + 1 by rw [← hwb]; simp [go_sem])
 have HBS := Aside0.mk (show BS wb [(w.heap.size, .cells #[.int .i64 0, .int .i64 0, .bool false, .bool false, .int .i64 0, .int .i64 0, .int .i64 0, .bool false, .int .u64 0, .int .u64 0, .bool false, .int .u64 0, .int .u64 0, .string ⟨#[]⟩, .string ⟨#[]⟩] 26 (0, 0))] wb from ⟨fun x hx => by obtain rfl := List.mem_singleton.1 hx; rw [← hwb]; exact heap_alloc_new _ _, Below.refl _ _⟩)
 have hu26 := Try.underlying26
 have hu24 := Try.underlying24
 have kb := fun s W => print_bytes (P := Try.prog) 9 45 5 Try.underlying9 Try.underlying45 Try.underlying5 s W
 have H1 := Aside0.mk h1; clear h1
 go_enter Try.func12, Try.ntmps12
 go_wp2_with fail
 clear hwb
 refine (crosswayref06_num.calls k s 0 1 first _ H1.out).mono ?_
 rintro e w2 ⟨rfl, hb⟩
 replace HBS := Aside0.mk (BS.more (W := _) (by repeat (first | (with_reducible exact HBS.out) | apply BS.drew | apply BS.drewN)) hb)
 clear hb
 have HRES := Aside0.mk (HBS.out.keep _ (List.mem_cons_self ..))
 obtain ⟨f0, f1, f2, f3, f4, f5, f6, f7, f8, f9, f10, f11, f12, f13, f14⟩ := MBlk.f15 HRES.out
 obtain ⟨s0, s1, s2, s3, s4, s5, s6, s7, s8, s9, s10, s11, s12, s13, s14⟩ := MBlk.c15 HRES.out
 have HBE := Aside0.mk (below_step HBW.out HBS.out.below)
 have HG0 := Aside0.mk (Nat.le_refl w.heap.size)
 go_wp2_with fail
 refine bodyPost_ret (results_ct rfl _ _ _ 26 #[.int .i64 0, .int .i64 0, .bool false, .bool false, .int .i64 0, .int .i64 0, .int .i64 0, .bool false, .int .u64 0, .int .u64 0, .bool false, .int .u64 0, .int .u64 0, .string ⟨#[]⟩, .string ⟨#[]⟩] (0, 0) _ rfl (by have h_ := MBlk.put15 HRES.out (.int .i64 0) (.int .i64 0) (.bool false) (.bool false) (.int .i64 0) (.int .i64 0) (.int .i64 0) (.bool false) (.int .u64 0) (.int .u64 0) (.bool false) (.int .u64 0) (.int .u64 0) (.string ⟨#[]⟩) (.string ⟨#[]⟩); exact h_) Try.underlying26 rfl (by kernel_rfl)) rfl ?_
 exact ⟨rfl, by repeat (first | (with_reducible first | exact HBE.out | apply below_alloc | apply pw_below_drewN | apply below_drew1 | refine below_set ?_ HG0.out) | exact HBE.out)⟩
set_option maxHeartbeats 4000000 in
set_option maxRecDepth 100000 in
theorem crosswayref06_Take.short2 (k : Nat) (s : ByteArray) (first : Int) (w : World) (hs : 20 ≤ s.size) (h1 : crosswayref06_num.f k s 0 1 = some first) (hf : ¬ first < 69) (hf2 : ¬ 79 < first) (hl : (s.size : Int) < 4 * (first - 64)) :
  Calls Try.prog 12 #[.string s] w fun e w' => e = .returned (.tuple #[.agg #[.int .i64 0, .int .i64 0, .bool false, .bool false, .int .i64 0, .int .i64 0, .int .i64 0, .bool false, .int .u64 0, .int .u64 0, .bool false, .int .u64 0, .int .u64 0, .string ⟨#[]⟩, .string ⟨#[]⟩], .int .i64 51]) ∧ Below w.heap.size w w' := by
 obtain ⟨wb, hwb⟩ : ∃ wb, w.alloc (.cells #[.int .i64 0, .int .i64 0, .bool false, .bool false, .int .i64 0, .int .i64 0, .int .i64 0, .bool false, .int .u64 0, .int .u64 0, .bool false, .int .u64 0, .int .u64 0, .string ⟨#[]⟩, .string ⟨#[]⟩] 26) = wb := ⟨_, rfl⟩
 have HBW := Aside0.mk (show Below w.heap.size w wb by rw [← hwb]; exact below_alloc (Below.refl _ _) _)
 have HWS := Aside0.mk (show wb.heap.size = w.heap.size + 1 by rw [← hwb]; simp [go_sem])
 have HBS := Aside0.mk (show BS wb [(w.heap.size, .cells #[.int .i64 0, .int .i64 0, .bool false, .bool false, .int .i64 0, .int .i64 0, .int .i64 0, .bool false, .int .u64 0, .int .u64 0, .bool false, .int .u64 0, .int .u64 0, .string ⟨#[]⟩, .string ⟨#[]⟩] 26 (0, 0))] wb from ⟨fun x hx => by obtain rfl := List.mem_singleton.1 hx; rw [← hwb]; exact heap_alloc_new _ _, Below.refl _ _⟩)
 have hu26 := Try.underlying26
 have hu24 := Try.underlying24
 have kb := fun s W => print_bytes (P := Try.prog) 9 45 5 Try.underlying9 Try.underlying45 Try.underlying5 s W
 have H1 := Aside0.mk h1; clear h1
 go_enter Try.func12, Try.ntmps12
 go_wp2_with fail
 clear hwb
 refine (crosswayref06_num.calls k s 0 1 first _ H1.out).mono ?_
 rintro e w2 ⟨rfl, hb⟩
 replace HBS := Aside0.mk (BS.more (W := _) (by repeat (first | (with_reducible exact HBS.out) | apply BS.drew | apply BS.drewN)) hb)
 clear hb
 have HRES := Aside0.mk (HBS.out.keep _ (List.mem_cons_self ..))
 obtain ⟨f0, f1, f2, f3, f4, f5, f6, f7, f8, f9, f10, f11, f12, f13, f14⟩ := MBlk.f15 HRES.out
 obtain ⟨s0, s1, s2, s3, s4, s5, s6, s7, s8, s9, s10, s11, s12, s13, s14⟩ := MBlk.c15 HRES.out
 have HBE := Aside0.mk (below_step HBW.out HBS.out.below)
 have HG0 := Aside0.mk (Nat.le_refl w.heap.size)
 go_wp2_with fail
 refine bodyPost_ret (results_ct rfl _ _ _ 26 #[.int .i64 0, .int .i64 0, .bool false, .bool false, .int .i64 0, .int .i64 0, .int .i64 0, .bool false, .int .u64 0, .int .u64 0, .bool false, .int .u64 0, .int .u64 0, .string ⟨#[]⟩, .string ⟨#[]⟩] (0, 0) _ rfl (by have h_ := MBlk.put15 HRES.out (.int .i64 0) (.int .i64 0) (.bool false) (.bool false) (.int .i64 0) (.int .i64 0) (.int .i64 0) (.bool false) (.int .u64 0) (.int .u64 0) (.bool false) (.int .u64 0) (.int .u64 0) (.string ⟨#[]⟩) (.string ⟨#[]⟩); exact h_) Try.underlying26 rfl (by kernel_rfl)) rfl ?_
 exact ⟨rfl, by repeat (first | (with_reducible first | exact HBE.out | apply below_alloc | apply pw_below_drewN | apply below_drew1 | refine below_set ?_ HG0.out) | exact HBE.out)⟩
set_option maxHeartbeats 4000000 in
set_option maxRecDepth 100000 in
theorem crosswayref06_Take.sum (k : Nat) (s : ByteArray) (first t : Int) (hd : Nat) (w : World) (hs : 20 ≤ s.size) (h1 : crosswayref06_num.f k s 0 1 = some first) (hf : ¬ first < 69) (hf2 : ¬ 79 < first) (hh : 4 * (first - 64) = (hd : Int)) (hl : hd ≤ s.size) (ht : crosswayref02_Sum.f k (bytesOf (s.extract 0 hd)) = some t) (h5 : ¬ t = 65535) :
  Calls Try.prog 12 #[.string s] w fun e w' => e = .returned (.tuple #[.agg #[.int .i64 0, .int .i64 0, .bool false, .bool false, .int .i64 0, .int .i64 0, .int .i64 0, .bool false, .int .u64 0, .int .u64 0, .bool false, .int .u64 0, .int .u64 0, .string ⟨#[]⟩, .string ⟨#[]⟩], .int .i64 52]) ∧ Below w.heap.size w w' := by
 obtain ⟨wb, hwb⟩ : ∃ wb, w.alloc (.cells #[.int .i64 0, .int .i64 0, .bool false, .bool false, .int .i64 0, .int .i64 0, .int .i64 0, .bool false, .int .u64 0, .int .u64 0, .bool false, .int .u64 0, .int .u64 0, .string ⟨#[]⟩, .string ⟨#[]⟩] 26) = wb := ⟨_, rfl⟩
 have HBW := Aside0.mk (show Below w.heap.size w wb by rw [← hwb]; exact below_alloc (Below.refl _ _) _)
 have HWS := Aside0.mk (show wb.heap.size = w.heap.size + 1 by rw [← hwb]; simp [go_sem])
 have HBS := Aside0.mk (show BS wb [(w.heap.size, .cells #[.int .i64 0, .int .i64 0, .bool false, .bool false, .int .i64 0, .int .i64 0, .int .i64 0, .bool false, .int .u64 0, .int .u64 0, .bool false, .int .u64 0, .int .u64 0, .string ⟨#[]⟩, .string ⟨#[]⟩] 26 (0, 0))] wb from ⟨fun x hx => by obtain rfl := List.mem_singleton.1 hx; rw [← hwb]; exact heap_alloc_new _ _, Below.refl _ _⟩)
 have hu26 := Try.underlying26
 have hu24 := Try.underlying24
 have kb := fun s W => print_bytes (P := Try.prog) 9 45 5 Try.underlying9 Try.underlying45 Try.underlying5 s W
 have H1 := Aside0.mk h1; clear h1
 have HSZ := Aside0.mk (show (s.extract 0 hd).size = hd by simp; omega)
 have hm : min hd s.size = hd := by omega
 have HTS := Aside0.mk ht; clear ht
 have hd0 : (0 : Int) ≤ (hd : Int) := by omega
 have hd1 : (hd : Int) ≤ (s.size : Int) := by omega
 have hd4 : ¬ (s.size : Int) < (hd : Int) := by omega
 have hdd : hd ≤ 1000 := by omega
 have t5 : (t != 65535) = true := by simpa using h5
 go_enter Try.func12, Try.ntmps12
 go_wp2_with fail
 clear hwb
 refine (crosswayref06_num.calls k s 0 1 first _ H1.out).mono ?_
 rintro e w2 ⟨rfl, hb⟩
 replace HBS := Aside0.mk (BS.more (W := _) (by repeat (first | (with_reducible exact HBS.out) | apply BS.drew | apply BS.drewN)) hb)
 clear hb
 go_wp2_with fail
 obtain ⟨wz, hwz⟩ : ∃ wz, wz = w2 := ⟨_, rfl⟩
 subst hwz
 have hC := MStr.C_bytes wz 5 (s.extract 0 hd) (by rw [HSZ.out]; omega)
 rw [HSZ.out] at hC
 have hLn : (bytesOf (s.extract 0 hd)).length = hd := by rw [bytesOf_length, HSZ.out]
 have hcall := crosswayref02_Sum.calls k (some ⟨wz.heap.size, 0, none⟩) (grownCap wz hd 0 5) (bytesOf (s.extract 0 hd)) t (Lib.bytesWorld wz 5 (s.extract 0 hd)) (by rw [hLn]; exact hC) (by rw [hLn]; exact grownCap_ge _ _ _ _) HTS.out
 rw [hLn] at hcall
 clear hC hLn
 refine hcall.mono ?_
 clear hcall
 rintro e w3 ⟨rfl, hb⟩
 replace HBS := Aside0.mk (BS.more (BS.more HBS.out (bytes_below (Below.refl _ _) (Nat.le_refl _) _ _)) hb)
 clear hb kb
 have HRES := Aside0.mk (HBS.out.keep _ (List.mem_cons_self ..))
 obtain ⟨f0, f1, f2, f3, f4, f5, f6, f7, f8, f9, f10, f11, f12, f13, f14⟩ := MBlk.f15 HRES.out
 obtain ⟨s0, s1, s2, s3, s4, s5, s6, s7, s8, s9, s10, s11, s12, s13, s14⟩ := MBlk.c15 HRES.out
 have HBE := Aside0.mk (below_step HBW.out HBS.out.below)
 have HG0 := Aside0.mk (Nat.le_refl w.heap.size)
 go_wp2_with fail
 refine bodyPost_ret (results_ct rfl _ _ _ 26 #[.int .i64 0, .int .i64 0, .bool false, .bool false, .int .i64 0, .int .i64 0, .int .i64 0, .bool false, .int .u64 0, .int .u64 0, .bool false, .int .u64 0, .int .u64 0, .string ⟨#[]⟩, .string ⟨#[]⟩] (0, 0) _ rfl (by have h_ := MBlk.put15 HRES.out (.int .i64 0) (.int .i64 0) (.bool false) (.bool false) (.int .i64 0) (.int .i64 0) (.int .i64 0) (.bool false) (.int .u64 0) (.int .u64 0) (.bool false) (.int .u64 0) (.int .u64 0) (.string ⟨#[]⟩) (.string ⟨#[]⟩); exact h_) Try.underlying26 rfl (by kernel_rfl)) rfl ?_
 exact ⟨rfl, by repeat (first | (with_reducible first | exact HBE.out | apply below_alloc | apply pw_below_drewN | apply below_drew1 | refine below_set ?_ HG0.out) | exact HBE.out)⟩
set_option maxHeartbeats 4000000 in
set_option maxRecDepth 100000 in
theorem crosswayref06_Take.form3 (k : Nat) (s : ByteArray) (first t off : Int) (hd wh : Nat) (w : World) (hs : 20 ≤ s.size) (h1 : crosswayref06_num.f k s 0 1 = some first) (hf : ¬ first < 69) (hf2 : ¬ 79 < first) (hh : 4 * (first - 64) = (hd : Int)) (hl : hd ≤ s.size) (ht : crosswayref02_Sum.f k (bytesOf (s.extract 0 hd)) = some t) (h5 : t = 65535) (h2 : crosswayref06_num.f k s 2 2 = some (wh : Int)) (h3 : crosswayref06_num.f k s 6 2 = some off) (h6 : wh < hd) :
  Calls Try.prog 12 #[.string s] w fun e w' => e = .returned (.tuple #[.agg #[.int .i64 0, .int .i64 0, .bool false, .bool false, .int .i64 0, .int .i64 0, .int .i64 0, .bool false, .int .u64 0, .int .u64 0, .bool false, .int .u64 0, .int .u64 0, .string ⟨#[]⟩, .string ⟨#[]⟩], .int .i64 50]) ∧ Below w.heap.size w w' := by
 obtain ⟨wb, hwb⟩ : ∃ wb, w.alloc (.cells #[.int .i64 0, .int .i64 0, .bool false, .bool false, .int .i64 0, .int .i64 0, .int .i64 0, .bool false, .int .u64 0, .int .u64 0, .bool false, .int .u64 0, .int .u64 0, .string ⟨#[]⟩, .string ⟨#[]⟩] 26) = wb := ⟨_, rfl⟩
 have HBW := Aside0.mk (show Below w.heap.size w wb by rw [← hwb]; exact below_alloc (Below.refl _ _) _)
 have HWS := Aside0.mk (show wb.heap.size = w.heap.size + 1 by rw [← hwb]; simp [go_sem])
 have HBS := Aside0.mk (show BS wb [(w.heap.size, .cells #[.int .i64 0, .int .i64 0, .bool false, .bool false, .int .i64 0, .int .i64 0, .int .i64 0, .bool false, .int .u64 0, .int .u64 0, .bool false, .int .u64 0, .int .u64 0, .string ⟨#[]⟩, .string ⟨#[]⟩] 26 (0, 0))] wb from ⟨fun x hx => by obtain rfl := List.mem_singleton.1 hx; rw [← hwb]; exact heap_alloc_new _ _, Below.refl _ _⟩)
 have hu26 := Try.underlying26
 have hu24 := Try.underlying24
 have kb := fun s W => print_bytes (P := Try.prog) 9 45 5 Try.underlying9 Try.underlying45 Try.underlying5 s W
 have H1 := Aside0.mk h1; clear h1
 have HSZ := Aside0.mk (show (s.extract 0 hd).size = hd by simp; omega)
 have hm : min hd s.size = hd := by omega
 have HTS := Aside0.mk ht; clear ht
 have hd0 : (0 : Int) ≤ (hd : Int) := by omega
 have hd1 : (hd : Int) ≤ (s.size : Int) := by omega
 have hd4 : ¬ (s.size : Int) < (hd : Int) := by omega
 have hdd : hd ≤ 1000 := by omega
 have H2 := Aside0.mk h2; have H3 := Aside0.mk h3; clear h2 h3
 have t5 : (t != 65535) = false := by simpa using h5
 have h6' : (wh : Int) < (hd : Int) := by omega
 clear h5
 go_enter Try.func12, Try.ntmps12
 go_wp2_with fail
 clear hwb
 refine (crosswayref06_num.calls k s 0 1 first _ H1.out).mono ?_
 rintro e w2 ⟨rfl, hb⟩
 replace HBS := Aside0.mk (BS.more (W := _) (by repeat (first | (with_reducible exact HBS.out) | apply BS.drew | apply BS.drewN)) hb)
 clear hb
 go_wp2_with fail
 obtain ⟨wz, hwz⟩ : ∃ wz, wz = w2 := ⟨_, rfl⟩
 subst hwz
 have hC := MStr.C_bytes wz 5 (s.extract 0 hd) (by rw [HSZ.out]; omega)
 rw [HSZ.out] at hC
 have hLn : (bytesOf (s.extract 0 hd)).length = hd := by rw [bytesOf_length, HSZ.out]
 have hcall := crosswayref02_Sum.calls k (some ⟨wz.heap.size, 0, none⟩) (grownCap wz hd 0 5) (bytesOf (s.extract 0 hd)) t (Lib.bytesWorld wz 5 (s.extract 0 hd)) (by rw [hLn]; exact hC) (by rw [hLn]; exact grownCap_ge _ _ _ _) HTS.out
 rw [hLn] at hcall
 clear hC hLn
 refine hcall.mono ?_
 clear hcall
 rintro e w3 ⟨rfl, hb⟩
 replace HBS := Aside0.mk (BS.more (BS.more HBS.out (bytes_below (Below.refl _ _) (Nat.le_refl _) _ _)) hb)
 clear hb kb
 go_wp2_with fail
 refine (crosswayref06_num.calls k s 2 2 (wh : Int) _ H2.out).mono ?_
 rintro e w2 ⟨rfl, hb⟩
 replace HBS := Aside0.mk (BS.more (W := _) (by repeat (first | (with_reducible exact HBS.out) | apply BS.drew | apply BS.drewN)) hb)
 clear hb
 go_wp2_with fail
 refine (crosswayref06_num.calls k s 6 2 off _ H3.out).mono ?_
 rintro e w2 ⟨rfl, hb⟩
 replace HBS := Aside0.mk (BS.more (W := _) (by repeat (first | (with_reducible exact HBS.out) | apply BS.drew | apply BS.drewN)) hb)
 clear hb
 have HRES := Aside0.mk (HBS.out.keep _ (List.mem_cons_self ..))
 obtain ⟨f0, f1, f2, f3, f4, f5, f6, f7, f8, f9, f10, f11, f12, f13, f14⟩ := MBlk.f15 HRES.out
 obtain ⟨s0, s1, s2, s3, s4, s5, s6, s7, s8, s9, s10, s11, s12, s13, s14⟩ := MBlk.c15 HRES.out
 have HBE := Aside0.mk (below_step HBW.out HBS.out.below)
 have HG0 := Aside0.mk (Nat.le_refl w.heap.size)
 go_wp2_with fail
 refine bodyPost_ret (results_ct rfl _ _ _ 26 #[.int .i64 0, .int .i64 0, .bool false, .bool false, .int .i64 0, .int .i64 0, .int .i64 0, .bool false, .int .u64 0, .int .u64 0, .bool false, .int .u64 0, .int .u64 0, .string ⟨#[]⟩, .string ⟨#[]⟩] (0, 0) _ rfl (by have h_ := MBlk.put15 HRES.out (.int .i64 0) (.int .i64 0) (.bool false) (.bool false) (.int .i64 0) (.int .i64 0) (.int .i64 0) (.bool false) (.int .u64 0) (.int .u64 0) (.bool false) (.int .u64 0) (.int .u64 0) (.string ⟨#[]⟩) (.string ⟨#[]⟩); exact h_) Try.underlying26 rfl (by kernel_rfl)) rfl ?_
 exact ⟨rfl, by repeat (first | (with_reducible first | exact HBE.out | apply below_alloc | apply pw_below_drewN | apply below_drew1 | refine below_set ?_ HG0.out) | exact HBE.out)⟩
set_option maxHeartbeats 4000000 in
set_option maxRecDepth 100000 in
theorem crosswayref06_Take.form4 (k : Nat) (s : ByteArray) (first t off : Int) (hd wh : Nat) (w : World) (hs : 20 ≤ s.size) (h1 : crosswayref06_num.f k s 0 1 = some first) (hf : ¬ first < 69) (hf2 : ¬ 79 < first) (hh : 4 * (first - 64) = (hd : Int)) (hl : hd ≤ s.size) (ht : crosswayref02_Sum.f k (bytesOf (s.extract 0 hd)) = some t) (h5 : t = 65535) (h2 : crosswayref06_num.f k s 2 2 = some (wh : Int)) (h3 : crosswayref06_num.f k s 6 2 = some off) (h6 : ¬ wh < hd) (h7 : 32768 ≤ off) :
  Calls Try.prog 12 #[.string s] w fun e w' => e = .returned (.tuple #[.agg #[.int .i64 0, .int .i64 0, .bool false, .bool false, .int .i64 0, .int .i64 0, .int .i64 0, .bool false, .int .u64 0, .int .u64 0, .bool false, .int .u64 0, .int .u64 0, .string ⟨#[]⟩, .string ⟨#[]⟩], .int .i64 50]) ∧ Below w.heap.size w w' := by
 obtain ⟨wb, hwb⟩ : ∃ wb, w.alloc (.cells #[.int .i64 0, .int .i64 0, .bool false, .bool false, .int .i64 0, .int .i64 0, .int .i64 0, .bool false, .int .u64 0, .int .u64 0, .bool false, .int .u64 0, .int .u64 0, .string ⟨#[]⟩, .string ⟨#[]⟩] 26) = wb := ⟨_, rfl⟩
 have HBW := Aside0.mk (show Below w.heap.size w wb by rw [← hwb]; exact below_alloc (Below.refl _ _) _)
 have HWS := Aside0.mk (show wb.heap.size = w.heap.size + 1 by rw [← hwb]; simp [go_sem])
 have HBS := Aside0.mk (show BS wb [(w.heap.size, .cells #[.int .i64 0, .int .i64 0, .bool false, .bool false, .int .i64 0, .int .i64 0, .int .i64 0, .bool false, .int .u64 0, .int .u64 0, .bool false, .int .u64 0, .int .u64 0, .string ⟨#[]⟩, .string ⟨#[]⟩] 26 (0, 0))] wb from ⟨fun x hx => by obtain rfl := List.mem_singleton.1 hx; rw [← hwb]; exact heap_alloc_new _ _, Below.refl _ _⟩)
 have hu26 := Try.underlying26
 have hu24 := Try.underlying24
 have kb := fun s W => print_bytes (P := Try.prog) 9 45 5 Try.underlying9 Try.underlying45 Try.underlying5 s W
 have H1 := Aside0.mk h1; clear h1
 have HSZ := Aside0.mk (show (s.extract 0 hd).size = hd by simp; omega)
 have hm : min hd s.size = hd := by omega
 have HTS := Aside0.mk ht; clear ht
 have hd0 : (0 : Int) ≤ (hd : Int) := by omega
 have hd1 : (hd : Int) ≤ (s.size : Int) := by omega
 have hd4 : ¬ (s.size : Int) < (hd : Int) := by omega
 have hdd : hd ≤ 1000 := by omega
 have H2 := Aside0.mk h2; have H3 := Aside0.mk h3; clear h2 h3
 have t5 : (t != 65535) = false := by simpa using h5
 have h6' : ¬ (wh : Int) < (hd : Int) := by omega
 clear h5
 go_enter Try.func12, Try.ntmps12
 go_wp2_with fail
 clear hwb
 refine (crosswayref06_num.calls k s 0 1 first _ H1.out).mono ?_
 rintro e w2 ⟨rfl, hb⟩
 replace HBS := Aside0.mk (BS.more (W := _) (by repeat (first | (with_reducible exact HBS.out) | apply BS.drew | apply BS.drewN)) hb)
 clear hb
 go_wp2_with fail
 obtain ⟨wz, hwz⟩ : ∃ wz, wz = w2 := ⟨_, rfl⟩
 subst hwz
 have hC := MStr.C_bytes wz 5 (s.extract 0 hd) (by rw [HSZ.out]; omega)
 rw [HSZ.out] at hC
 have hLn : (bytesOf (s.extract 0 hd)).length = hd := by rw [bytesOf_length, HSZ.out]
 have hcall := crosswayref02_Sum.calls k (some ⟨wz.heap.size, 0, none⟩) (grownCap wz hd 0 5) (bytesOf (s.extract 0 hd)) t (Lib.bytesWorld wz 5 (s.extract 0 hd)) (by rw [hLn]; exact hC) (by rw [hLn]; exact grownCap_ge _ _ _ _) HTS.out
 rw [hLn] at hcall
 clear hC hLn
 refine hcall.mono ?_
 clear hcall
 rintro e w3 ⟨rfl, hb⟩
 replace HBS := Aside0.mk (BS.more (BS.more HBS.out (bytes_below (Below.refl _ _) (Nat.le_refl _) _ _)) hb)
 clear hb kb
 go_wp2_with fail
 refine (crosswayref06_num.calls k s 2 2 (wh : Int) _ H2.out).mono ?_
 rintro e w2 ⟨rfl, hb⟩
 replace HBS := Aside0.mk (BS.more (W := _) (by repeat (first | (with_reducible exact HBS.out) | apply BS.drew | apply BS.drewN)) hb)
 clear hb
 go_wp2_with fail
 refine (crosswayref06_num.calls k s 6 2 off _ H3.out).mono ?_
 rintro e w2 ⟨rfl, hb⟩
 replace HBS := Aside0.mk (BS.more (W := _) (by repeat (first | (with_reducible exact HBS.out) | apply BS.drew | apply BS.drewN)) hb)
 clear hb
 have HRES := Aside0.mk (HBS.out.keep _ (List.mem_cons_self ..))
 obtain ⟨f0, f1, f2, f3, f4, f5, f6, f7, f8, f9, f10, f11, f12, f13, f14⟩ := MBlk.f15 HRES.out
 obtain ⟨s0, s1, s2, s3, s4, s5, s6, s7, s8, s9, s10, s11, s12, s13, s14⟩ := MBlk.c15 HRES.out
 have HBE := Aside0.mk (below_step HBW.out HBS.out.below)
 have HG0 := Aside0.mk (Nat.le_refl w.heap.size)
 go_wp2_with fail
 refine bodyPost_ret (results_ct rfl _ _ _ 26 #[.int .i64 0, .int .i64 0, .bool false, .bool false, .int .i64 0, .int .i64 0, .int .i64 0, .bool false, .int .u64 0, .int .u64 0, .bool false, .int .u64 0, .int .u64 0, .string ⟨#[]⟩, .string ⟨#[]⟩] (0, 0) _ rfl (by have h_ := MBlk.put15 HRES.out (.int .i64 0) (.int .i64 0) (.bool false) (.bool false) (.int .i64 0) (.int .i64 0) (.int .i64 0) (.bool false) (.int .u64 0) (.int .u64 0) (.bool false) (.int .u64 0) (.int .u64 0) (.string ⟨#[]⟩) (.string ⟨#[]⟩); exact h_) Try.underlying26 rfl (by kernel_rfl)) rfl ?_
 exact ⟨rfl, by repeat (first | (with_reducible first | exact HBE.out | apply below_alloc | apply pw_below_drewN | apply below_drew1 | refine below_set ?_ HG0.out) | exact HBE.out)⟩
set_option maxHeartbeats 4000000 in
set_option maxRecDepth 100000 in
theorem crosswayref06_Take.short3 (k : Nat) (s : ByteArray) (first t off : Int) (hd wh : Nat) (w : World) (hs : 20 ≤ s.size) (h1 : crosswayref06_num.f k s 0 1 = some first) (hf : ¬ first < 69) (hf2 : ¬ 79 < first) (hh : 4 * (first - 64) = (hd : Int)) (hl : hd ≤ s.size) (ht : crosswayref02_Sum.f k (bytesOf (s.extract 0 hd)) = some t) (h5 : t = 65535) (h2 : crosswayref06_num.f k s 2 2 = some (wh : Int)) (h3 : crosswayref06_num.f k s 6 2 = some off) (h6 : ¬ wh < hd) (h7 : ¬ 32768 ≤ off) (h8 : s.size < wh) :
  Calls Try.prog 12 #[.string s] w fun e w' => e = .returned (.tuple #[.agg #[.int .i64 0, .int .i64 0, .bool false, .bool false, .int .i64 0, .int .i64 0, .int .i64 0, .bool false, .int .u64 0, .int .u64 0, .bool false, .int .u64 0, .int .u64 0, .string ⟨#[]⟩, .string ⟨#[]⟩], .int .i64 51]) ∧ Below w.heap.size w w' := by
 obtain ⟨wb, hwb⟩ : ∃ wb, w.alloc (.cells #[.int .i64 0, .int .i64 0, .bool false, .bool false, .int .i64 0, .int .i64 0, .int .i64 0, .bool false, .int .u64 0, .int .u64 0, .bool false, .int .u64 0, .int .u64 0, .string ⟨#[]⟩, .string ⟨#[]⟩] 26) = wb := ⟨_, rfl⟩
 have HBW := Aside0.mk (show Below w.heap.size w wb by rw [← hwb]; exact below_alloc (Below.refl _ _) _)
 have HWS := Aside0.mk (show wb.heap.size = w.heap.size + 1 by rw [← hwb]; simp [go_sem])
 have HBS := Aside0.mk (show BS wb [(w.heap.size, .cells #[.int .i64 0, .int .i64 0, .bool false, .bool false, .int .i64 0, .int .i64 0, .int .i64 0, .bool false, .int .u64 0, .int .u64 0, .bool false, .int .u64 0, .int .u64 0, .string ⟨#[]⟩, .string ⟨#[]⟩] 26 (0, 0))] wb from ⟨fun x hx => by obtain rfl := List.mem_singleton.1 hx; rw [← hwb]; exact heap_alloc_new _ _, Below.refl _ _⟩)
 have hu26 := Try.underlying26
 have hu24 := Try.underlying24
 have kb := fun s W => print_bytes (P := Try.prog) 9 45 5 Try.underlying9 Try.underlying45 Try.underlying5 s W
 have H1 := Aside0.mk h1; clear h1
 have HSZ := Aside0.mk (show (s.extract 0 hd).size = hd by simp; omega)
 have hm : min hd s.size = hd := by omega
 have HTS := Aside0.mk ht; clear ht
 have hd0 : (0 : Int) ≤ (hd : Int) := by omega
 have hd1 : (hd : Int) ≤ (s.size : Int) := by omega
 have hd4 : ¬ (s.size : Int) < (hd : Int) := by omega
 have hdd : hd ≤ 1000 := by omega
 have H2 := Aside0.mk h2; have H3 := Aside0.mk h3; clear h2 h3
 have t5 : (t != 65535) = false := by simpa using h5
 have h6' : ¬ (wh : Int) < (hd : Int) := by omega
 have h8' : (s.size : Int) < (wh : Int) := by omega
 clear h5
 go_enter Try.func12, Try.ntmps12
 go_wp2_with fail
 clear hwb
 refine (crosswayref06_num.calls k s 0 1 first _ H1.out).mono ?_
 rintro e w2 ⟨rfl, hb⟩
 replace HBS := Aside0.mk (BS.more (W := _) (by repeat (first | (with_reducible exact HBS.out) | apply BS.drew | apply BS.drewN)) hb)
 clear hb
 go_wp2_with fail
 obtain ⟨wz, hwz⟩ : ∃ wz, wz = w2 := ⟨_, rfl⟩
 subst hwz
 have hC := MStr.C_bytes wz 5 (s.extract 0 hd) (by rw [HSZ.out]; omega)
 rw [HSZ.out] at hC
 have hLn : (bytesOf (s.extract 0 hd)).length = hd := by rw [bytesOf_length, HSZ.out]
 have hcall := crosswayref02_Sum.calls k (some ⟨wz.heap.size, 0, none⟩) (grownCap wz hd 0 5) (bytesOf (s.extract 0 hd)) t (Lib.bytesWorld wz 5 (s.extract 0 hd)) (by rw [hLn]; exact hC) (by rw [hLn]; exact grownCap_ge _ _ _ _) HTS.out
 rw [hLn] at hcall
 clear hC hLn
 refine hcall.mono ?_
 clear hcall
 rintro e w3 ⟨rfl, hb⟩
 replace HBS := Aside0.mk (BS.more (BS.more HBS.out (bytes_below (Below.refl _ _) (Nat.le_refl _) _ _)) hb)
 clear hb kb
 go_wp2_with fail
 refine (crosswayref06_num.calls k s 2 2 (wh : Int) _ H2.out).mono ?_
 rintro e w2 ⟨rfl, hb⟩
 replace HBS := Aside0.mk (BS.more (W := _) (by repeat (first | (with_reducible exact HBS.out) | apply BS.drew | apply BS.drewN)) hb)
 clear hb
 go_wp2_with fail
 refine (crosswayref06_num.calls k s 6 2 off _ H3.out).mono ?_
 rintro e w2 ⟨rfl, hb⟩
 replace HBS := Aside0.mk (BS.more (W := _) (by repeat (first | (with_reducible exact HBS.out) | apply BS.drew | apply BS.drewN)) hb)
 clear hb
 have HRES := Aside0.mk (HBS.out.keep _ (List.mem_cons_self ..))
 obtain ⟨f0, f1, f2, f3, f4, f5, f6, f7, f8, f9, f10, f11, f12, f13, f14⟩ := MBlk.f15 HRES.out
 obtain ⟨s0, s1, s2, s3, s4, s5, s6, s7, s8, s9, s10, s11, s12, s13, s14⟩ := MBlk.c15 HRES.out
 have HBE := Aside0.mk (below_step HBW.out HBS.out.below)
 have HG0 := Aside0.mk (Nat.le_refl w.heap.size)
 go_wp2_with fail
 refine bodyPost_ret (results_ct rfl _ _ _ 26 #[.int .i64 0, .int .i64 0, .bool false, .bool false, .int .i64 0, .int .i64 0, .int .i64 0, .bool false, .int .u64 0, .int .u64 0, .bool false, .int .u64 0, .int .u64 0, .string ⟨#[]⟩, .string ⟨#[]⟩] (0, 0) _ rfl (by have h_ := MBlk.put15 HRES.out (.int .i64 0) (.int .i64 0) (.bool false) (.bool false) (.int .i64 0) (.int .i64 0) (.int .i64 0) (.bool false) (.int .u64 0) (.int .u64 0) (.bool false) (.int .u64 0) (.int .u64 0) (.string ⟨#[]⟩) (.string ⟨#[]⟩); exact h_) Try.underlying26 rfl (by kernel_rfl)) rfl ?_
 exact ⟨rfl, by repeat (first | (with_reducible first | exact HBE.out | apply below_alloc | apply pw_below_drewN | apply below_drew1 | refine below_set ?_ HG0.out) | exact HBE.out)⟩
set_option maxHeartbeats 4000000 in
set_option maxRecDepth 100000 in
theorem crosswayref06_Take.good (k : Nat) (s : ByteArray) (first t off tos id ttl proto src dst : Int) (hd wh : Nat) (ol : List S44) (oe : Int) (w : World) (hs : 20 ≤ s.size) (h1 : crosswayref06_num.f k s 0 1 = some first) (hf : ¬ first < 69) (hf2 : ¬ 79 < first) (hh : 4 * (first - 64) = (hd : Int)) (hl : hd ≤ s.size) (ht : crosswayref02_Sum.f k (bytesOf (s.extract 0 hd)) = some t) (h5 : t = 65535) (h2 : crosswayref06_num.f k s 2 2 = some (wh : Int)) (h3 : crosswayref06_num.f k s 6 2 = some off) (h6 : ¬ wh < hd) (h7 : ¬ 32768 ≤ off) (h7' : 0 ≤ off) (h8 : ¬ s.size < wh) (htos : crosswayref06_num.f k s 1 1 = some tos) (hid : crosswayref06_num.f k s 4 2 = some id) (httl : crosswayref06_num.f k s 8 1 = some ttl) (hproto : crosswayref06_num.f k s 9 1 = some proto) (hsrc : crosswayref06_num.f k s 12 4 = some src) (hdst : crosswayref06_num.f k s 16 4 = some dst) (ho : crosswayref06_Options.f k (s.extract 20 hd) = some (ol, oe)) (s0 : 0 ≤ src) (s1 : src ≤ 4294967295) (e0 : 0 ≤ dst) (e1 : dst ≤ 4294967295) (hoe : oe = 0) :
  Calls Try.prog 12 #[.string s] w fun e w' => e = .returned (.tuple #[.agg #[.int .i64 tos, .int .i64 id, .bool (off / 16384 == 1), .bool (off / 8192 % 2 == 1), .int .i64 (off % 8192), .int .i64 ttl, .int .i64 proto, .bool false, .int .u64 0, .int .u64 src, .bool false, .int .u64 0, .int .u64 dst, .string (s.extract 20 hd), .string (s.extract hd wh)], .int .i64 0]) ∧ Below w.heap.size w w' := by
 obtain ⟨wb, hwb⟩ : ∃ wb, w.alloc (.cells #[.int .i64 0, .int .i64 0, .bool false, .bool false, .int .i64 0, .int .i64 0, .int .i64 0, .bool false, .int .u64 0, .int .u64 0, .bool false, .int .u64 0, .int .u64 0, .string ⟨#[]⟩, .string ⟨#[]⟩] 26) = wb := ⟨_, rfl⟩
 have HBW := Aside0.mk (show Below w.heap.size w wb by rw [← hwb]; exact below_alloc (Below.refl _ _) _)
 have HWS := Aside0.mk (show wb.heap.size = w.heap.size + 1 by rw [← hwb]; simp [go_sem])
 have HBS := Aside0.mk (show BS wb [(w.heap.size, .cells #[.int .i64 0, .int .i64 0, .bool false, .bool false, .int .i64 0, .int .i64 0, .int .i64 0, .bool false, .int .u64 0, .int .u64 0, .bool false, .int .u64 0, .int .u64 0, .string ⟨#[]⟩, .string ⟨#[]⟩] 26 (0, 0))] wb from ⟨fun x hx => by obtain rfl := List.mem_singleton.1 hx; rw [← hwb]; exact heap_alloc_new _ _, Below.refl _ _⟩)
 have hu26 := Try.underlying26
 have hu24 := Try.underlying24
 have kb := fun s W => print_bytes (P := Try.prog) 9 45 5 Try.underlying9 Try.underlying45 Try.underlying5 s W
 have H1 := Aside0.mk h1; clear h1
 have HSZ := Aside0.mk (show (s.extract 0 hd).size = hd by simp; omega)
 have hm : min hd s.size = hd := by omega
 have HTS := Aside0.mk ht; clear ht
 have hd0 : (0 : Int) ≤ (hd : Int) := by omega
 have hd1 : (hd : Int) ≤ (s.size : Int) := by omega
 have hd4 : ¬ (s.size : Int) < (hd : Int) := by omega
 have hdd : hd ≤ 1000 := by omega
 have H2 := Aside0.mk h2; have H3 := Aside0.mk h3; clear h2 h3
 have t5 : (t != 65535) = false := by simpa using h5
 have h6' : ¬ (wh : Int) < (hd : Int) := by omega
 have h8' : ¬ (s.size : Int) < (wh : Int) := by omega
 clear h5
 have Htos := Aside0.mk htos; have Hid := Aside0.mk hid; have Httl := Aside0.mk httl; have Hproto := Aside0.mk hproto; have Hsrc := Aside0.mk hsrc; have Hdst := Aside0.mk hdst; clear htos hid httl hproto hsrc hdst
 have HO := Aside0.mk ho; clear ho
 have g1 : ((20 : Int) ≤ (hd : Int)) = True := eq_true (by omega)
 have g2 : ((hd : Int) ≤ (s.size : Int)) = True := eq_true (by omega)
 have g3 : ((hd : Int) ≤ (wh : Int)) = True := eq_true (by omega)
 have g4 : ((wh : Int) ≤ (s.size : Int)) = True := eq_true (by omega)
 have g5 : ((0 : Int) ≤ (hd : Int)) = True := eq_true (by omega)
 have g6 : ((0 : Int) ≤ (wh : Int)) = True := eq_true (by omega)
 have d1 : IntKind.i64.wrap (off.tdiv 16384) = off / 16384 := by simp only [i64_w]; rw [Int.tdiv_eq_ediv_of_nonneg (by omega)]; unfold wrap64; omega
 have d2 : IntKind.i64.wrap (off.tdiv 8192) = off / 8192 := by simp only [i64_w]; rw [Int.tdiv_eq_ediv_of_nonneg (by omega)]; unfold wrap64; omega
 have d3 : (off / 8192).tmod 2 = off / 8192 % 2 := Int.tmod_eq_emod_of_nonneg (by omega)
 have d4 : off.tmod 8192 = off % 8192 := Int.tmod_eq_emod_of_nonneg (by omega)
 have u1 : IntKind.u64.wrap src = src := crosswayref06_Take.wu (by omega) (by omega)
 have u2 : IntKind.u64.wrap dst = dst := crosswayref06_Take.wu (by omega) (by omega)
 go_enter Try.func12, Try.ntmps12
 go_wp2_with fail
 clear hwb
 refine (crosswayref06_num.calls k s 0 1 first _ H1.out).mono ?_
 rintro e w2 ⟨rfl, hb⟩
 replace HBS := Aside0.mk (BS.more (W := _) (by repeat (first | (with_reducible exact HBS.out) | apply BS.drew | apply BS.drewN)) hb)
 clear hb
 go_wp2_with fail
 obtain ⟨wz, hwz⟩ : ∃ wz, wz = w2 := ⟨_, rfl⟩
 subst hwz
 have hC := MStr.C_bytes wz 5 (s.extract 0 hd) (by rw [HSZ.out]; omega)
 rw [HSZ.out] at hC
 have hLn : (bytesOf (s.extract 0 hd)).length = hd := by rw [bytesOf_length, HSZ.out]
 have hcall := crosswayref02_Sum.calls k (some ⟨wz.heap.size, 0, none⟩) (grownCap wz hd 0 5) (bytesOf (s.extract 0 hd)) t (Lib.bytesWorld wz 5 (s.extract 0 hd)) (by rw [hLn]; exact hC) (by rw [hLn]; exact grownCap_ge _ _ _ _) HTS.out
 rw [hLn] at hcall
 clear hC hLn
 refine hcall.mono ?_
 clear hcall
 rintro e w3 ⟨rfl, hb⟩
 replace HBS := Aside0.mk (BS.more (BS.more HBS.out (bytes_below (Below.refl _ _) (Nat.le_refl _) _ _)) hb)
 clear hb kb
 go_wp2_with fail
 refine (crosswayref06_num.calls k s 2 2 (wh : Int) _ H2.out).mono ?_
 rintro e w2 ⟨rfl, hb⟩
 replace HBS := Aside0.mk (BS.more (W := _) (by repeat (first | (with_reducible exact HBS.out) | apply BS.drew | apply BS.drewN)) hb)
 clear hb
 go_wp2_with fail
 refine (crosswayref06_num.calls k s 6 2 off _ H3.out).mono ?_
 rintro e w2 ⟨rfl, hb⟩
 replace HBS := Aside0.mk (BS.more (W := _) (by repeat (first | (with_reducible exact HBS.out) | apply BS.drew | apply BS.drewN)) hb)
 clear hb
 go_upto_region 17 with (fail)
 have HZ := Aside0.mk HBS.out.below.size
 go_cut [8] (fun v8 wc => ∃ gp : Nat, v8 = .pointer (some ⟨gp, 0, none⟩) ∧ Aside0 (BS wb [(gp, .cells #[.int .i64 tos, .int .i64 id, .bool (off / 16384 == 1), .bool (off / 8192 % 2 == 1), .int .i64 (off % 8192), .int .i64 ttl, .int .i64 proto, .bool false, .int .u64 0, .int .u64 0, .bool false, .int .u64 0, .int .u64 0, .string (s.extract 20 hd), .string (s.extract hd wh)] 26 (0, 0)), (w.heap.size, .cells #[.int .i64 0, .int .i64 0, .bool false, .bool false, .int .i64 0, .int .i64 0, .int .i64 0, .bool false, .int .u64 0, .int .u64 0, .bool false, .int .u64 0, .int .u64 0, .string ⟨#[]⟩, .string ⟨#[]⟩] 26 (0, 0))] wc) ∧ Aside0 (wb.heap.size ≤ gp))
 case first =>
   have hz := HZ.out; clear HZ
   go_region_held3 (fun w' => True) (trivial) (first | (go_at_call 31; (with_reducible refine (crosswayref06_num.calls k s 1 1 tos _ Htos.out).mono ?_); rintro e w5 ⟨rfl, hb⟩; (first | (have n_ := Aside0.mk (BS.more HBS.out hb)) | (have n_ := Aside0.mk (BS.more (BS.drew HBS.out) hb)) | (have n_ := Aside0.mk (BS.more (BS.alloc HBS.out _) hb)) | (have n_ := Aside0.mk (BS.more (BS.drew (BS.alloc HBS.out _)) hb)) | (have n_ := Aside0.mk (BS.more (BS.alloc (BS.drew HBS.out) _) hb))); clear HBS; have HBS := n_; clear n_ hb; have hz := HBS.out.below.size; (try clear y0 z0 y1 z1 y2 z2 y3 z3 y4 z4 y5 z5 y6 z6 y7 z7 y8 z8 y9 z9 y10 z10 y11 z11 y12 z12 y13 z13 y14 z14); obtain ⟨y0, y1, y2, y3, y4, y5, y6, y7, y8, y9, y10, y11, y12, y13, y14⟩ := MBlk.c15 (HBS.out.keep _ (List.mem_cons_self ..)); obtain ⟨z0, z1, z2, z3, z4, z5, z6, z7, z8, z9, z10, z11, z12, z13, z14⟩ := MBlk.f15 (HBS.out.keep _ (List.mem_cons_self ..))) | (go_at_call 31; (with_reducible refine (crosswayref06_num.calls k s 4 2 id _ Hid.out).mono ?_); rintro e w5 ⟨rfl, hb⟩; (first | (have n_ := Aside0.mk (BS.more HBS.out hb)) | (have n_ := Aside0.mk (BS.more (BS.drew HBS.out) hb)) | (have n_ := Aside0.mk (BS.more (BS.alloc HBS.out _) hb)) | (have n_ := Aside0.mk (BS.more (BS.drew (BS.alloc HBS.out _)) hb)) | (have n_ := Aside0.mk (BS.more (BS.alloc (BS.drew HBS.out) _) hb))); clear HBS; have HBS := n_; clear n_ hb; have hz := HBS.out.below.size; (try clear y0 z0 y1 z1 y2 z2 y3 z3 y4 z4 y5 z5 y6 z6 y7 z7 y8 z8 y9 z9 y10 z10 y11 z11 y12 z12 y13 z13 y14 z14); obtain ⟨y0, y1, y2, y3, y4, y5, y6, y7, y8, y9, y10, y11, y12, y13, y14⟩ := MBlk.c15 (HBS.out.keep _ (List.mem_cons_self ..)); obtain ⟨z0, z1, z2, z3, z4, z5, z6, z7, z8, z9, z10, z11, z12, z13, z14⟩ := MBlk.f15 (HBS.out.keep _ (List.mem_cons_self ..))) | (go_at_call 31; (with_reducible refine (crosswayref06_num.calls k s 8 1 ttl _ Httl.out).mono ?_); rintro e w5 ⟨rfl, hb⟩; (first | (have n_ := Aside0.mk (BS.more HBS.out hb)) | (have n_ := Aside0.mk (BS.more (BS.drew HBS.out) hb)) | (have n_ := Aside0.mk (BS.more (BS.alloc HBS.out _) hb)) | (have n_ := Aside0.mk (BS.more (BS.drew (BS.alloc HBS.out _)) hb)) | (have n_ := Aside0.mk (BS.more (BS.alloc (BS.drew HBS.out) _) hb))); clear HBS; have HBS := n_; clear n_ hb; have hz := HBS.out.below.size; (try clear y0 z0 y1 z1 y2 z2 y3 z3 y4 z4 y5 z5 y6 z6 y7 z7 y8 z8 y9 z9 y10 z10 y11 z11 y12 z12 y13 z13 y14 z14); obtain ⟨y0, y1, y2, y3, y4, y5, y6, y7, y8, y9, y10, y11, y12, y13, y14⟩ := MBlk.c15 (HBS.out.keep _ (List.mem_cons_self ..)); obtain ⟨z0, z1, z2, z3, z4, z5, z6, z7, z8, z9, z10, z11, z12, z13, z14⟩ := MBlk.f15 (HBS.out.keep _ (List.mem_cons_self ..))) | (go_at_call 31; (with_reducible refine (crosswayref06_num.calls k s 9 1 proto _ Hproto.out).mono ?_); rintro e w5 ⟨rfl, hb⟩; (first | (have n_ := Aside0.mk (BS.more HBS.out hb)) | (have n_ := Aside0.mk (BS.more (BS.drew HBS.out) hb)) | (have n_ := Aside0.mk (BS.more (BS.alloc HBS.out _) hb)) | (have n_ := Aside0.mk (BS.more (BS.drew (BS.alloc HBS.out _)) hb)) | (have n_ := Aside0.mk (BS.more (BS.alloc (BS.drew HBS.out) _) hb))); clear HBS; have HBS := n_; clear n_ hb; have hz := HBS.out.below.size; (try clear y0 z0 y1 z1 y2 z2 y3 z3 y4 z4 y5 z5 y6 z6 y7 z7 y8 z8 y9 z9 y10 z10 y11 z11 y12 z12 y13 z13 y14 z14); obtain ⟨y0, y1, y2, y3, y4, y5, y6, y7, y8, y9, y10, y11, y12, y13, y14⟩ := MBlk.c15 (HBS.out.keep _ (List.mem_cons_self ..)); obtain ⟨z0, z1, z2, z3, z4, z5, z6, z7, z8, z9, z10, z11, z12, z13, z14⟩ := MBlk.f15 (HBS.out.keep _ (List.mem_cons_self ..))))
   all_goals
    go_wp2
    go_meet
    case rel =>
     first
     | exact ⟨_, rfl, ⟨HBS.out.alloc _⟩, ⟨HBS.out.below.size⟩⟩ | (refine ⟨_, rfl, ⟨?_⟩, ⟨?_⟩⟩; rotate_left; exact (by assumption); exact (fun HGE HNE => BS.all15 HBS.out HGE HNE (.int .i64 tos) (.int .i64 id) (.bool (off / 16384 == 1)) (.bool (off / 8192 % 2 == 1)) (.int .i64 (off % 8192)) (.int .i64 ttl) (.int .i64 proto) (.bool false) (.int .u64 0) (.int .u64 0) (.bool false) (.int .u64 0) (.int .u64 0) (.string (s.extract 20 hd)) (.string (s.extract hd wh))) (by assumption) (fun x hx => by obtain rfl := List.mem_singleton.1 hx; have := HWS.out; simp only; omega))
 case rest =>
  clear HBS HZ
  obtain ⟨gp, rfl, HBS, HGP⟩ := hcut
  have HGE := HGP.out
  have HNE : ∀ x ∈ [(w.heap.size, Obj.cells #[.int .i64 0, .int .i64 0, .bool false, .bool false, .int .i64 0, .int .i64 0, .int .i64 0, .bool false, .int .u64 0, .int .u64 0, .bool false, .int .u64 0, .int .u64 0, .string ⟨#[]⟩, .string ⟨#[]⟩] 26 (0, 0))], x.1 ≠ gp := by
   intro x hx; obtain rfl := List.mem_singleton.1 hx; have := HWS.out; simp only; omega
  have AGE := Aside0.mk HGE; have ANE := Aside0.mk HNE
  clear HGE HNE HGP g1 g2 g3 g4 g5 g6 d1 d2 d3 d4
  go_wp2_with fail
  refine (crosswayref06_num.calls k s 12 4 src _ Hsrc.out).mono ?_
  rintro e w2 ⟨rfl, hb⟩
  replace HBS := Aside0.mk (BS.more (W := _) (by repeat (first | (with_reducible exact HBS.out) | apply BS.drew | apply BS.drewN)) hb)
  clear hb
  have y7 := HBS.out.cell (j := 7) (List.mem_cons_self ..) rfl
  have z7 := HBS.out.free 7 (List.mem_cons_self ..)
  have y8 := HBS.out.cell (j := 8) (List.mem_cons_self ..) rfl
  have z8 := HBS.out.free 8 (List.mem_cons_self ..)
  have y9 := HBS.out.cell (j := 9) (List.mem_cons_self ..) rfl
  have z9 := HBS.out.free 9 (List.mem_cons_self ..)
  go_wp2_with fail
  clear y7 z7 y8 z8 y9 z9
  have HGE := AGE.out; have HNE := ANE.out
  replace HBS := Aside0.mk (show BS wb [(gp, .cells #[.int .i64 tos, .int .i64 id, .bool (off / 16384 == 1), .bool (off / 8192 % 2 == 1), .int .i64 (off % 8192), .int .i64 ttl, .int .i64 proto, .bool false, .int .u64 0, .int .u64 src, .bool false, .int .u64 0, .int .u64 0, .string (s.extract 20 hd), .string (s.extract hd wh)] 26 (0, 0)), (w.heap.size, .cells #[.int .i64 0, .int .i64 0, .bool false, .bool false, .int .i64 0, .int .i64 0, .int .i64 0, .bool false, .int .u64 0, .int .u64 0, .bool false, .int .u64 0, .int .u64 0, .string ⟨#[]⟩, .string ⟨#[]⟩] 26 (0, 0))] _ from (BS.set' (cs2 := #[.int .i64 tos, .int .i64 id, .bool (off / 16384 == 1), .bool (off / 8192 % 2 == 1), .int .i64 (off % 8192), .int .i64 ttl, .int .i64 proto, .bool false, .int .u64 0, .int .u64 src, .bool false, .int .u64 0, .int .u64 0, .string (s.extract 20 hd), .string (s.extract hd wh)]) (BS.set' (cs2 := #[.int .i64 tos, .int .i64 id, .bool (off / 16384 == 1), .bool (off / 8192 % 2 == 1), .int .i64 (off % 8192), .int .i64 ttl, .int .i64 proto, .bool false, .int .u64 0, .int .u64 0, .bool false, .int .u64 0, .int .u64 0, .string (s.extract 20 hd), .string (s.extract hd wh)]) (BS.set' (cs2 := #[.int .i64 tos, .int .i64 id, .bool (off / 16384 == 1), .bool (off / 8192 % 2 == 1), .int .i64 (off % 8192), .int .i64 ttl, .int .i64 proto, .bool false, .int .u64 0, .int .u64 0, .bool false, .int .u64 0, .int .u64 0, .string (s.extract 20 hd), .string (s.extract hd wh)]) HBS.out HGE HNE 7 (.bool false) rfl) HGE HNE 8 (.int .u64 0) rfl) HGE HNE 9 (.int .u64 src) rfl))
  clear HGE HNE
  refine (crosswayref06_num.calls k s 16 4 dst _ Hdst.out).mono ?_
  rintro e w2 ⟨rfl, hb⟩
  replace HBS := Aside0.mk (BS.more (W := _) (by repeat (first | (with_reducible exact HBS.out) | apply BS.drew | apply BS.drewN)) hb)
  clear hb
  have y10 := HBS.out.cell (j := 10) (List.mem_cons_self ..) rfl
  have z10 := HBS.out.free 10 (List.mem_cons_self ..)
  have y11 := HBS.out.cell (j := 11) (List.mem_cons_self ..) rfl
  have z11 := HBS.out.free 11 (List.mem_cons_self ..)
  have y12 := HBS.out.cell (j := 12) (List.mem_cons_self ..) rfl
  have z12 := HBS.out.free 12 (List.mem_cons_self ..)
  have y13 := HBS.out.cell (j := 13) (List.mem_cons_self ..) rfl
  go_wp2_with fail
  clear y10 z10 y11 z11 y12 z12 y13
  have HGE := AGE.out; have HNE := ANE.out
  replace HBS := Aside0.mk (show BS wb [(gp, .cells #[.int .i64 tos, .int .i64 id, .bool (off / 16384 == 1), .bool (off / 8192 % 2 == 1), .int .i64 (off % 8192), .int .i64 ttl, .int .i64 proto, .bool false, .int .u64 0, .int .u64 src, .bool false, .int .u64 0, .int .u64 dst, .string (s.extract 20 hd), .string (s.extract hd wh)] 26 (0, 0)), (w.heap.size, .cells #[.int .i64 0, .int .i64 0, .bool false, .bool false, .int .i64 0, .int .i64 0, .int .i64 0, .bool false, .int .u64 0, .int .u64 0, .bool false, .int .u64 0, .int .u64 0, .string ⟨#[]⟩, .string ⟨#[]⟩] 26 (0, 0))] _ from (BS.set' (cs2 := #[.int .i64 tos, .int .i64 id, .bool (off / 16384 == 1), .bool (off / 8192 % 2 == 1), .int .i64 (off % 8192), .int .i64 ttl, .int .i64 proto, .bool false, .int .u64 0, .int .u64 src, .bool false, .int .u64 0, .int .u64 dst, .string (s.extract 20 hd), .string (s.extract hd wh)]) (BS.set' (cs2 := #[.int .i64 tos, .int .i64 id, .bool (off / 16384 == 1), .bool (off / 8192 % 2 == 1), .int .i64 (off % 8192), .int .i64 ttl, .int .i64 proto, .bool false, .int .u64 0, .int .u64 src, .bool false, .int .u64 0, .int .u64 0, .string (s.extract 20 hd), .string (s.extract hd wh)]) (BS.set' (cs2 := #[.int .i64 tos, .int .i64 id, .bool (off / 16384 == 1), .bool (off / 8192 % 2 == 1), .int .i64 (off % 8192), .int .i64 ttl, .int .i64 proto, .bool false, .int .u64 0, .int .u64 src, .bool false, .int .u64 0, .int .u64 0, .string (s.extract 20 hd), .string (s.extract hd wh)]) HBS.out HGE HNE 10 (.bool false) rfl) HGE HNE 11 (.int .u64 0) rfl) HGE HNE 12 (.int .u64 dst) rfl))
  clear HGE HNE
  refine (crosswayref06_Options.calls k _ _ _ _ HO.out).mono ?_
  rintro e w20 ⟨vo, rfl, hro, hb⟩
  replace HBS := Aside0.mk (HBS.out.more hb)
  clear hb hro
  obtain ⟨q0, q1, q2, q3, q4, q5, q6, q7, q8, q9, q10, q11, q12, q13, q14⟩ := MBlk.c15 (HBS.out.keep _ (List.mem_cons_self ..))
  have t1 : (oe != 0) = false := by simpa using hoe
  have HRES := Aside0.mk (HBS.out.keep _ (List.mem_cons_of_mem _ (List.mem_cons_self ..)))
  obtain ⟨f0, f1, f2, f3, f4, f5, f6, f7, f8, f9, f10, f11, f12, f13, f14⟩ := MBlk.f15 HRES.out
  obtain ⟨s0, s1, s2, s3, s4, s5, s6, s7, s8, s9, s10, s11, s12, s13, s14⟩ := MBlk.c15 HRES.out
  have HBE := Aside0.mk (below_step HBW.out HBS.out.below)
  have HG0 := Aside0.mk (Nat.le_refl w.heap.size)
  go_wp2_with fail
  refine bodyPost_ret (results_ct rfl _ _ _ 26 #[.int .i64 tos, .int .i64 id, .bool (off / 16384 == 1), .bool (off / 8192 % 2 == 1), .int .i64 (off % 8192), .int .i64 ttl, .int .i64 proto, .bool false, .int .u64 0, .int .u64 src, .bool false, .int .u64 0, .int .u64 dst, .string (s.extract 20 hd), .string (s.extract hd wh)] (0, 0) _ rfl (by have h_ := MBlk.put15 HRES.out (.int .i64 tos) (.int .i64 id) (.bool (off / 16384 == 1)) (.bool (off / 8192 % 2 == 1)) (.int .i64 (off % 8192)) (.int .i64 ttl) (.int .i64 proto) (.bool false) (.int .u64 0) (.int .u64 src) (.bool false) (.int .u64 0) (.int .u64 dst) (.string (s.extract 20 hd)) (.string (s.extract hd wh)); exact h_) Try.underlying26 rfl (by kernel_rfl)) rfl ?_
  exact ⟨rfl, by repeat (first | (with_reducible first | exact HBE.out | apply below_alloc | apply pw_below_drewN | apply below_drew1 | refine below_set ?_ HG0.out) | exact HBE.out)⟩
set_option maxHeartbeats 4000000 in
set_option maxRecDepth 100000 in
theorem crosswayref06_Take.opts (k : Nat) (s : ByteArray) (first t off tos id ttl proto src dst : Int) (hd wh : Nat) (ol : List S44) (oe : Int) (w : World) (hs : 20 ≤ s.size) (h1 : crosswayref06_num.f k s 0 1 = some first) (hf : ¬ first < 69) (hf2 : ¬ 79 < first) (hh : 4 * (first - 64) = (hd : Int)) (hl : hd ≤ s.size) (ht : crosswayref02_Sum.f k (bytesOf (s.extract 0 hd)) = some t) (h5 : t = 65535) (h2 : crosswayref06_num.f k s 2 2 = some (wh : Int)) (h3 : crosswayref06_num.f k s 6 2 = some off) (h6 : ¬ wh < hd) (h7 : ¬ 32768 ≤ off) (h7' : 0 ≤ off) (h8 : ¬ s.size < wh) (htos : crosswayref06_num.f k s 1 1 = some tos) (hid : crosswayref06_num.f k s 4 2 = some id) (httl : crosswayref06_num.f k s 8 1 = some ttl) (hproto : crosswayref06_num.f k s 9 1 = some proto) (hsrc : crosswayref06_num.f k s 12 4 = some src) (hdst : crosswayref06_num.f k s 16 4 = some dst) (ho : crosswayref06_Options.f k (s.extract 20 hd) = some (ol, oe)) (s0 : 0 ≤ src) (s1 : src ≤ 4294967295) (e0 : 0 ≤ dst) (e1 : dst ≤ 4294967295) (hoe : ¬ oe = 0) :
  Calls Try.prog 12 #[.string s] w fun e w' => e = .returned (.tuple #[.agg #[.int .i64 0, .int .i64 0, .bool false, .bool false, .int .i64 0, .int .i64 0, .int .i64 0, .bool false, .int .u64 0, .int .u64 0, .bool false, .int .u64 0, .int .u64 0, .string ⟨#[]⟩, .string ⟨#[]⟩], .int .i64 oe]) ∧ Below w.heap.size w w' := by
 obtain ⟨wb, hwb⟩ : ∃ wb, w.alloc (.cells #[.int .i64 0, .int .i64 0, .bool false, .bool false, .int .i64 0, .int .i64 0, .int .i64 0, .bool false, .int .u64 0, .int .u64 0, .bool false, .int .u64 0, .int .u64 0, .string ⟨#[]⟩, .string ⟨#[]⟩] 26) = wb := ⟨_, rfl⟩
 have HBW := Aside0.mk (show Below w.heap.size w wb by rw [← hwb]; exact below_alloc (Below.refl _ _) _)
 have HWS := Aside0.mk (show wb.heap.size = w.heap.size + 1 by rw [← hwb]; simp [go_sem])
 have HBS := Aside0.mk (show BS wb [(w.heap.size, .cells #[.int .i64 0, .int .i64 0, .bool false, .bool false, .int .i64 0, .int .i64 0, .int .i64 0, .bool false, .int .u64 0, .int .u64 0, .bool false, .int .u64 0, .int .u64 0, .string ⟨#[]⟩, .string ⟨#[]⟩] 26 (0, 0))] wb from ⟨fun x hx => by obtain rfl := List.mem_singleton.1 hx; rw [← hwb]; exact heap_alloc_new _ _, Below.refl _ _⟩)
 have hu26 := Try.underlying26
 have hu24 := Try.underlying24
 have kb := fun s W => print_bytes (P := Try.prog) 9 45 5 Try.underlying9 Try.underlying45 Try.underlying5 s W
 have H1 := Aside0.mk h1; clear h1
 have HSZ := Aside0.mk (show (s.extract 0 hd).size = hd by simp; omega)
 have hm : min hd s.size = hd := by omega
 have HTS := Aside0.mk ht; clear ht
 have hd0 : (0 : Int) ≤ (hd : Int) := by omega
 have hd1 : (hd : Int) ≤ (s.size : Int) := by omega
 have hd4 : ¬ (s.size : Int) < (hd : Int) := by omega
 have hdd : hd ≤ 1000 := by omega
 have H2 := Aside0.mk h2; have H3 := Aside0.mk h3; clear h2 h3
 have t5 : (t != 65535) = false := by simpa using h5
 have h6' : ¬ (wh : Int) < (hd : Int) := by omega
 have h8' : ¬ (s.size : Int) < (wh : Int) := by omega
 clear h5
 have Htos := Aside0.mk htos; have Hid := Aside0.mk hid; have Httl := Aside0.mk httl; have Hproto := Aside0.mk hproto; have Hsrc := Aside0.mk hsrc; have Hdst := Aside0.mk hdst; clear htos hid httl hproto hsrc hdst
 have HO := Aside0.mk ho; clear ho
 have g1 : ((20 : Int) ≤ (hd : Int)) = True := eq_true (by omega)
 have g2 : ((hd : Int) ≤ (s.size : Int)) = True := eq_true (by omega)
 have g3 : ((hd : Int) ≤ (wh : Int)) = True := eq_true (by omega)
 have g4 : ((wh : Int) ≤ (s.size : Int)) = True := eq_true (by omega)
 have g5 : ((0 : Int) ≤ (hd : Int)) = True := eq_true (by omega)
 have g6 : ((0 : Int) ≤ (wh : Int)) = True := eq_true (by omega)
 have d1 : IntKind.i64.wrap (off.tdiv 16384) = off / 16384 := by simp only [i64_w]; rw [Int.tdiv_eq_ediv_of_nonneg (by omega)]; unfold wrap64; omega
 have d2 : IntKind.i64.wrap (off.tdiv 8192) = off / 8192 := by simp only [i64_w]; rw [Int.tdiv_eq_ediv_of_nonneg (by omega)]; unfold wrap64; omega
 have d3 : (off / 8192).tmod 2 = off / 8192 % 2 := Int.tmod_eq_emod_of_nonneg (by omega)
 have d4 : off.tmod 8192 = off % 8192 := Int.tmod_eq_emod_of_nonneg (by omega)
 have u1 : IntKind.u64.wrap src = src := crosswayref06_Take.wu (by omega) (by omega)
 have u2 : IntKind.u64.wrap dst = dst := crosswayref06_Take.wu (by omega) (by omega)
 go_enter Try.func12, Try.ntmps12
 go_wp2_with fail
 clear hwb
 refine (crosswayref06_num.calls k s 0 1 first _ H1.out).mono ?_
 rintro e w2 ⟨rfl, hb⟩
 replace HBS := Aside0.mk (BS.more (W := _) (by repeat (first | (with_reducible exact HBS.out) | apply BS.drew | apply BS.drewN)) hb)
 clear hb
 go_wp2_with fail
 obtain ⟨wz, hwz⟩ : ∃ wz, wz = w2 := ⟨_, rfl⟩
 subst hwz
 have hC := MStr.C_bytes wz 5 (s.extract 0 hd) (by rw [HSZ.out]; omega)
 rw [HSZ.out] at hC
 have hLn : (bytesOf (s.extract 0 hd)).length = hd := by rw [bytesOf_length, HSZ.out]
 have hcall := crosswayref02_Sum.calls k (some ⟨wz.heap.size, 0, none⟩) (grownCap wz hd 0 5) (bytesOf (s.extract 0 hd)) t (Lib.bytesWorld wz 5 (s.extract 0 hd)) (by rw [hLn]; exact hC) (by rw [hLn]; exact grownCap_ge _ _ _ _) HTS.out
 rw [hLn] at hcall
 clear hC hLn
 refine hcall.mono ?_
 clear hcall
 rintro e w3 ⟨rfl, hb⟩
 replace HBS := Aside0.mk (BS.more (BS.more HBS.out (bytes_below (Below.refl _ _) (Nat.le_refl _) _ _)) hb)
 clear hb kb
 go_wp2_with fail
 refine (crosswayref06_num.calls k s 2 2 (wh : Int) _ H2.out).mono ?_
 rintro e w2 ⟨rfl, hb⟩
 replace HBS := Aside0.mk (BS.more (W := _) (by repeat (first | (with_reducible exact HBS.out) | apply BS.drew | apply BS.drewN)) hb)
 clear hb
 go_wp2_with fail
 refine (crosswayref06_num.calls k s 6 2 off _ H3.out).mono ?_
 rintro e w2 ⟨rfl, hb⟩
 replace HBS := Aside0.mk (BS.more (W := _) (by repeat (first | (with_reducible exact HBS.out) | apply BS.drew | apply BS.drewN)) hb)
 clear hb
 go_upto_region 17 with (fail)
 have HZ := Aside0.mk HBS.out.below.size
 go_cut [8] (fun v8 wc => ∃ gp : Nat, v8 = .pointer (some ⟨gp, 0, none⟩) ∧ Aside0 (BS wb [(gp, .cells #[.int .i64 tos, .int .i64 id, .bool (off / 16384 == 1), .bool (off / 8192 % 2 == 1), .int .i64 (off % 8192), .int .i64 ttl, .int .i64 proto, .bool false, .int .u64 0, .int .u64 0, .bool false, .int .u64 0, .int .u64 0, .string (s.extract 20 hd), .string (s.extract hd wh)] 26 (0, 0)), (w.heap.size, .cells #[.int .i64 0, .int .i64 0, .bool false, .bool false, .int .i64 0, .int .i64 0, .int .i64 0, .bool false, .int .u64 0, .int .u64 0, .bool false, .int .u64 0, .int .u64 0, .string ⟨#[]⟩, .string ⟨#[]⟩] 26 (0, 0))] wc) ∧ Aside0 (wb.heap.size ≤ gp))
 case first =>
   have hz := HZ.out; clear HZ
   go_region_held3 (fun w' => True) (trivial) (first | (go_at_call 31; (with_reducible refine (crosswayref06_num.calls k s 1 1 tos _ Htos.out).mono ?_); rintro e w5 ⟨rfl, hb⟩; (first | (have n_ := Aside0.mk (BS.more HBS.out hb)) | (have n_ := Aside0.mk (BS.more (BS.drew HBS.out) hb)) | (have n_ := Aside0.mk (BS.more (BS.alloc HBS.out _) hb)) | (have n_ := Aside0.mk (BS.more (BS.drew (BS.alloc HBS.out _)) hb)) | (have n_ := Aside0.mk (BS.more (BS.alloc (BS.drew HBS.out) _) hb))); clear HBS; have HBS := n_; clear n_ hb; have hz := HBS.out.below.size; (try clear y0 z0 y1 z1 y2 z2 y3 z3 y4 z4 y5 z5 y6 z6 y7 z7 y8 z8 y9 z9 y10 z10 y11 z11 y12 z12 y13 z13 y14 z14); obtain ⟨y0, y1, y2, y3, y4, y5, y6, y7, y8, y9, y10, y11, y12, y13, y14⟩ := MBlk.c15 (HBS.out.keep _ (List.mem_cons_self ..)); obtain ⟨z0, z1, z2, z3, z4, z5, z6, z7, z8, z9, z10, z11, z12, z13, z14⟩ := MBlk.f15 (HBS.out.keep _ (List.mem_cons_self ..))) | (go_at_call 31; (with_reducible refine (crosswayref06_num.calls k s 4 2 id _ Hid.out).mono ?_); rintro e w5 ⟨rfl, hb⟩; (first | (have n_ := Aside0.mk (BS.more HBS.out hb)) | (have n_ := Aside0.mk (BS.more (BS.drew HBS.out) hb)) | (have n_ := Aside0.mk (BS.more (BS.alloc HBS.out _) hb)) | (have n_ := Aside0.mk (BS.more (BS.drew (BS.alloc HBS.out _)) hb)) | (have n_ := Aside0.mk (BS.more (BS.alloc (BS.drew HBS.out) _) hb))); clear HBS; have HBS := n_; clear n_ hb; have hz := HBS.out.below.size; (try clear y0 z0 y1 z1 y2 z2 y3 z3 y4 z4 y5 z5 y6 z6 y7 z7 y8 z8 y9 z9 y10 z10 y11 z11 y12 z12 y13 z13 y14 z14); obtain ⟨y0, y1, y2, y3, y4, y5, y6, y7, y8, y9, y10, y11, y12, y13, y14⟩ := MBlk.c15 (HBS.out.keep _ (List.mem_cons_self ..)); obtain ⟨z0, z1, z2, z3, z4, z5, z6, z7, z8, z9, z10, z11, z12, z13, z14⟩ := MBlk.f15 (HBS.out.keep _ (List.mem_cons_self ..))) | (go_at_call 31; (with_reducible refine (crosswayref06_num.calls k s 8 1 ttl _ Httl.out).mono ?_); rintro e w5 ⟨rfl, hb⟩; (first | (have n_ := Aside0.mk (BS.more HBS.out hb)) | (have n_ := Aside0.mk (BS.more (BS.drew HBS.out) hb)) | (have n_ := Aside0.mk (BS.more (BS.alloc HBS.out _) hb)) | (have n_ := Aside0.mk (BS.more (BS.drew (BS.alloc HBS.out _)) hb)) | (have n_ := Aside0.mk (BS.more (BS.alloc (BS.drew HBS.out) _) hb))); clear HBS; have HBS := n_; clear n_ hb; have hz := HBS.out.below.size; (try clear y0 z0 y1 z1 y2 z2 y3 z3 y4 z4 y5 z5 y6 z6 y7 z7 y8 z8 y9 z9 y10 z10 y11 z11 y12 z12 y13 z13 y14 z14); obtain ⟨y0, y1, y2, y3, y4, y5, y6, y7, y8, y9, y10, y11, y12, y13, y14⟩ := MBlk.c15 (HBS.out.keep _ (List.mem_cons_self ..)); obtain ⟨z0, z1, z2, z3, z4, z5, z6, z7, z8, z9, z10, z11, z12, z13, z14⟩ := MBlk.f15 (HBS.out.keep _ (List.mem_cons_self ..))) | (go_at_call 31; (with_reducible refine (crosswayref06_num.calls k s 9 1 proto _ Hproto.out).mono ?_); rintro e w5 ⟨rfl, hb⟩; (first | (have n_ := Aside0.mk (BS.more HBS.out hb)) | (have n_ := Aside0.mk (BS.more (BS.drew HBS.out) hb)) | (have n_ := Aside0.mk (BS.more (BS.alloc HBS.out _) hb)) | (have n_ := Aside0.mk (BS.more (BS.drew (BS.alloc HBS.out _)) hb)) | (have n_ := Aside0.mk (BS.more (BS.alloc (BS.drew HBS.out) _) hb))); clear HBS; have HBS := n_; clear n_ hb; have hz := HBS.out.below.size; (try clear y0 z0 y1 z1 y2 z2 y3 z3 y4 z4 y5 z5 y6 z6 y7 z7 y8 z8 y9 z9 y10 z10 y11 z11 y12 z12 y13 z13 y14 z14); obtain ⟨y0, y1, y2, y3, y4, y5, y6, y7, y8, y9, y10, y11, y12, y13, y14⟩ := MBlk.c15 (HBS.out.keep _ (List.mem_cons_self ..)); obtain ⟨z0, z1, z2, z3, z4, z5, z6, z7, z8, z9, z10, z11, z12, z13, z14⟩ := MBlk.f15 (HBS.out.keep _ (List.mem_cons_self ..))))
   all_goals
    go_wp2
    go_meet
    case rel =>
     first
     | exact ⟨_, rfl, ⟨HBS.out.alloc _⟩, ⟨HBS.out.below.size⟩⟩ | (refine ⟨_, rfl, ⟨?_⟩, ⟨?_⟩⟩; rotate_left; exact (by assumption); exact (fun HGE HNE => BS.all15 HBS.out HGE HNE (.int .i64 tos) (.int .i64 id) (.bool (off / 16384 == 1)) (.bool (off / 8192 % 2 == 1)) (.int .i64 (off % 8192)) (.int .i64 ttl) (.int .i64 proto) (.bool false) (.int .u64 0) (.int .u64 0) (.bool false) (.int .u64 0) (.int .u64 0) (.string (s.extract 20 hd)) (.string (s.extract hd wh))) (by assumption) (fun x hx => by obtain rfl := List.mem_singleton.1 hx; have := HWS.out; simp only; omega))
 case rest =>
  clear HBS HZ
  obtain ⟨gp, rfl, HBS, HGP⟩ := hcut
  have HGE := HGP.out
  have HNE : ∀ x ∈ [(w.heap.size, Obj.cells #[.int .i64 0, .int .i64 0, .bool false, .bool false, .int .i64 0, .int .i64 0, .int .i64 0, .bool false, .int .u64 0, .int .u64 0, .bool false, .int .u64 0, .int .u64 0, .string ⟨#[]⟩, .string ⟨#[]⟩] 26 (0, 0))], x.1 ≠ gp := by
   intro x hx; obtain rfl := List.mem_singleton.1 hx; have := HWS.out; simp only; omega
  have AGE := Aside0.mk HGE; have ANE := Aside0.mk HNE
  clear HGE HNE HGP g1 g2 g3 g4 g5 g6 d1 d2 d3 d4
  go_wp2_with fail
  refine (crosswayref06_num.calls k s 12 4 src _ Hsrc.out).mono ?_
  rintro e w2 ⟨rfl, hb⟩
  replace HBS := Aside0.mk (BS.more (W := _) (by repeat (first | (with_reducible exact HBS.out) | apply BS.drew | apply BS.drewN)) hb)
  clear hb
  have y7 := HBS.out.cell (j := 7) (List.mem_cons_self ..) rfl
  have z7 := HBS.out.free 7 (List.mem_cons_self ..)
  have y8 := HBS.out.cell (j := 8) (List.mem_cons_self ..) rfl
  have z8 := HBS.out.free 8 (List.mem_cons_self ..)
  have y9 := HBS.out.cell (j := 9) (List.mem_cons_self ..) rfl
  have z9 := HBS.out.free 9 (List.mem_cons_self ..)
  go_wp2_with fail
  clear y7 z7 y8 z8 y9 z9
  have HGE := AGE.out; have HNE := ANE.out
  replace HBS := Aside0.mk (show BS wb [(gp, .cells #[.int .i64 tos, .int .i64 id, .bool (off / 16384 == 1), .bool (off / 8192 % 2 == 1), .int .i64 (off % 8192), .int .i64 ttl, .int .i64 proto, .bool false, .int .u64 0, .int .u64 src, .bool false, .int .u64 0, .int .u64 0, .string (s.extract 20 hd), .string (s.extract hd wh)] 26 (0, 0)), (w.heap.size, .cells #[.int .i64 0, .int .i64 0, .bool false, .bool false, .int .i64 0, .int .i64 0, .int .i64 0, .bool false, .int .u64 0, .int .u64 0, .bool false, .int .u64 0, .int .u64 0, .string ⟨#[]⟩, .string ⟨#[]⟩] 26 (0, 0))] _ from (BS.set' (cs2 := #[.int .i64 tos, .int .i64 id, .bool (off / 16384 == 1), .bool (off / 8192 % 2 == 1), .int .i64 (off % 8192), .int .i64 ttl, .int .i64 proto, .bool false, .int .u64 0, .int .u64 src, .bool false, .int .u64 0, .int .u64 0, .string (s.extract 20 hd), .string (s.extract hd wh)]) (BS.set' (cs2 := #[.int .i64 tos, .int .i64 id, .bool (off / 16384 == 1), .bool (off / 8192 % 2 == 1), .int .i64 (off % 8192), .int .i64 ttl, .int .i64 proto, .bool false, .int .u64 0, .int .u64 0, .bool false, .int .u64 0, .int .u64 0, .string (s.extract 20 hd), .string (s.extract hd wh)]) (BS.set' (cs2 := #[.int .i64 tos, .int .i64 id, .bool (off / 16384 == 1), .bool (off / 8192 % 2 == 1), .int .i64 (off % 8192), .int .i64 ttl, .int .i64 proto, .bool false, .int .u64 0, .int .u64 0, .bool false, .int .u64 0, .int .u64 0, .string (s.extract 20 hd), .string (s.extract hd wh)]) HBS.out HGE HNE 7 (.bool false) rfl) HGE HNE 8 (.int .u64 0) rfl) HGE HNE 9 (.int .u64 src) rfl))
  clear HGE HNE
  refine (crosswayref06_num.calls k s 16 4 dst _ Hdst.out).mono ?_
  rintro e w2 ⟨rfl, hb⟩
  replace HBS := Aside0.mk (BS.more (W := _) (by repeat (first | (with_reducible exact HBS.out) | apply BS.drew | apply BS.drewN)) hb)
  clear hb
  have y10 := HBS.out.cell (j := 10) (List.mem_cons_self ..) rfl
  have z10 := HBS.out.free 10 (List.mem_cons_self ..)
  have y11 := HBS.out.cell (j := 11) (List.mem_cons_self ..) rfl
  have z11 := HBS.out.free 11 (List.mem_cons_self ..)
  have y12 := HBS.out.cell (j := 12) (List.mem_cons_self ..) rfl
  have z12 := HBS.out.free 12 (List.mem_cons_self ..)
  have y13 := HBS.out.cell (j := 13) (List.mem_cons_self ..) rfl
  go_wp2_with fail
  clear y10 z10 y11 z11 y12 z12 y13
  have HGE := AGE.out; have HNE := ANE.out
  replace HBS := Aside0.mk (show BS wb [(gp, .cells #[.int .i64 tos, .int .i64 id, .bool (off / 16384 == 1), .bool (off / 8192 % 2 == 1), .int .i64 (off % 8192), .int .i64 ttl, .int .i64 proto, .bool false, .int .u64 0, .int .u64 src, .bool false, .int .u64 0, .int .u64 dst, .string (s.extract 20 hd), .string (s.extract hd wh)] 26 (0, 0)), (w.heap.size, .cells #[.int .i64 0, .int .i64 0, .bool false, .bool false, .int .i64 0, .int .i64 0, .int .i64 0, .bool false, .int .u64 0, .int .u64 0, .bool false, .int .u64 0, .int .u64 0, .string ⟨#[]⟩, .string ⟨#[]⟩] 26 (0, 0))] _ from (BS.set' (cs2 := #[.int .i64 tos, .int .i64 id, .bool (off / 16384 == 1), .bool (off / 8192 % 2 == 1), .int .i64 (off % 8192), .int .i64 ttl, .int .i64 proto, .bool false, .int .u64 0, .int .u64 src, .bool false, .int .u64 0, .int .u64 dst, .string (s.extract 20 hd), .string (s.extract hd wh)]) (BS.set' (cs2 := #[.int .i64 tos, .int .i64 id, .bool (off / 16384 == 1), .bool (off / 8192 % 2 == 1), .int .i64 (off % 8192), .int .i64 ttl, .int .i64 proto, .bool false, .int .u64 0, .int .u64 src, .bool false, .int .u64 0, .int .u64 0, .string (s.extract 20 hd), .string (s.extract hd wh)]) (BS.set' (cs2 := #[.int .i64 tos, .int .i64 id, .bool (off / 16384 == 1), .bool (off / 8192 % 2 == 1), .int .i64 (off % 8192), .int .i64 ttl, .int .i64 proto, .bool false, .int .u64 0, .int .u64 src, .bool false, .int .u64 0, .int .u64 0, .string (s.extract 20 hd), .string (s.extract hd wh)]) HBS.out HGE HNE 10 (.bool false) rfl) HGE HNE 11 (.int .u64 0) rfl) HGE HNE 12 (.int .u64 dst) rfl))
  clear HGE HNE
  refine (crosswayref06_Options.calls k _ _ _ _ HO.out).mono ?_
  rintro e w20 ⟨vo, rfl, hro, hb⟩
  replace HBS := Aside0.mk (HBS.out.more hb)
  clear hb hro
  obtain ⟨q0, q1, q2, q3, q4, q5, q6, q7, q8, q9, q10, q11, q12, q13, q14⟩ := MBlk.c15 (HBS.out.keep _ (List.mem_cons_self ..))
  have t1 : (oe != 0) = true := by simpa using hoe
  have HRES := Aside0.mk (HBS.out.keep _ (List.mem_cons_of_mem _ (List.mem_cons_self ..)))
  obtain ⟨f0, f1, f2, f3, f4, f5, f6, f7, f8, f9, f10, f11, f12, f13, f14⟩ := MBlk.f15 HRES.out
  obtain ⟨s0, s1, s2, s3, s4, s5, s6, s7, s8, s9, s10, s11, s12, s13, s14⟩ := MBlk.c15 HRES.out
  have HBE := Aside0.mk (below_step HBW.out HBS.out.below)
  have HG0 := Aside0.mk (Nat.le_refl w.heap.size)
  go_wp2_with fail
  refine bodyPost_ret (results_ct rfl _ _ _ 26 #[.int .i64 0, .int .i64 0, .bool false, .bool false, .int .i64 0, .int .i64 0, .int .i64 0, .bool false, .int .u64 0, .int .u64 0, .bool false, .int .u64 0, .int .u64 0, .string ⟨#[]⟩, .string ⟨#[]⟩] (0, 0) _ rfl (by have h_ := MBlk.put15 HRES.out (.int .i64 0) (.int .i64 0) (.bool false) (.bool false) (.int .i64 0) (.int .i64 0) (.int .i64 0) (.bool false) (.int .u64 0) (.int .u64 0) (.bool false) (.int .u64 0) (.int .u64 0) (.string ⟨#[]⟩) (.string ⟨#[]⟩); exact h_) Try.underlying26 rfl (by kernel_rfl)) rfl ?_
  exact ⟨rfl, by repeat (first | (with_reducible first | exact HBE.out | apply below_alloc | apply pw_below_drewN | apply below_drew1 | refine below_set ?_ HG0.out) | exact HBE.out)⟩
theorem crosswayref06_Take.mono : ∀ a0 k, LeO (crosswayref06_Take.f k a0) (crosswayref06_Take.f (k + 1) a0) := by
 intro a0 k
 unfold crosswayref06_Take.f crosswayref06_Take.rest
 repeat' first | (with_reducible exact crosswayref06_num.mono _ _ _ _) | (with_reducible exact crosswayref02_Sum.mono _ _) | (with_reducible exact crosswayref06_Options.mono _ _) | (with_reducible exact LeO.refl _) | (with_reducible exact LeO.none _) | (with_reducible refine LeO.ite ?_ ?_) | (with_reducible refine LeO.bind ?_ (fun _ => ?_))
theorem crosswayref06_Take.calls (k : Nat) (a0 : ByteArray) (r1 : Int) (r2 : Int) (r3 : Bool) (r4 : Bool) (r5 : Int) (r6 : Int) (r7 : Int) (r8 : Bool) (r9 : Int) (r10 : Int) (r11 : Bool) (r12 : Int) (r13 : Int) (r14 : ByteArray) (r15 : ByteArray) (r16 : Int) (w : World) (h : crosswayref06_Take.f k a0 = some (r1, r2, r3, r4, r5, r6, r7, r8, r9, r10, r11, r12, r13, r14, r15, r16)) :
  Calls Try.prog 12 #[.string a0] w fun e w' => e = .returned (.tuple #[.agg #[.int .i64 r1, .int .i64 r2, .bool r3, .bool r4, .int .i64 r5, .int .i64 r6, .int .i64 r7, .bool r8, .int .u64 r9, .int .u64 r10, .bool r11, .int .u64 r12, .int .u64 r13, .string r14, .string r15], .int .i64 r16]) ∧ Below w.heap.size w w' := by
 unfold crosswayref06_Take.f at h
 by_cases c1 : (a0.size : Int) < 20
 · rw [if_pos c1] at h; injection h with h; simp only [crosswayref06_Take.no, Prod.mk.injEq] at h; obtain ⟨rfl, rfl, rfl, rfl, rfl, rfl, rfl, rfl, rfl, rfl, rfl, rfl, rfl, rfl, rfl, rfl⟩ := h; exact crosswayref06_Take.short a0 w c1
 rw [if_neg c1] at h
 obtain ⟨first, h1, h⟩ := Option.bind_eq_some_iff.1 h
 by_cases c2 : first < 69
 · rw [if_pos (.inl c2)] at h; injection h with h; simp only [crosswayref06_Take.no, Prod.mk.injEq] at h; obtain ⟨rfl, rfl, rfl, rfl, rfl, rfl, rfl, rfl, rfl, rfl, rfl, rfl, rfl, rfl, rfl, rfl⟩ := h; exact crosswayref06_Take.form1 k a0 first w (by omega) h1 c2
 by_cases c3 : 79 < first
 · rw [if_pos (.inr c3)] at h; injection h with h; simp only [crosswayref06_Take.no, Prod.mk.injEq] at h; obtain ⟨rfl, rfl, rfl, rfl, rfl, rfl, rfl, rfl, rfl, rfl, rfl, rfl, rfl, rfl, rfl, rfl⟩ := h; exact crosswayref06_Take.form2 k a0 first w (by omega) h1 c2 c3
 rw [if_neg (fun q => q.elim c2 c3)] at h
 by_cases c4 : (a0.size : Int) < 4 * (first - 64)
 · rw [if_pos c4] at h; injection h with h; simp only [crosswayref06_Take.no, Prod.mk.injEq] at h; obtain ⟨rfl, rfl, rfl, rfl, rfl, rfl, rfl, rfl, rfl, rfl, rfl, rfl, rfl, rfl, rfl, rfl⟩ := h; exact crosswayref06_Take.short2 k a0 first w (by omega) h1 c2 c3 c4
 rw [if_neg c4] at h
 obtain ⟨hd, hhd⟩ := Int.eq_ofNat_of_zero_le (show 0 ≤ 4 * (first - 64) by omega)
 rw [hhd, Int.toNat_natCast] at h
 obtain ⟨t, ht, h⟩ := Option.bind_eq_some_iff.1 h
 by_cases c5 : t = 65535
 case neg => rw [if_pos c5] at h; injection h with h; simp only [crosswayref06_Take.no, Prod.mk.injEq] at h; obtain ⟨rfl, rfl, rfl, rfl, rfl, rfl, rfl, rfl, rfl, rfl, rfl, rfl, rfl, rfl, rfl, rfl⟩ := h; exact crosswayref06_Take.sum k a0 first t hd w (by omega) h1 c2 c3 hhd (by omega) ht c5
 rw [if_neg (fun q => q c5)] at h
 obtain ⟨wi, h2, h⟩ := Option.bind_eq_some_iff.1 h
 obtain ⟨off, h3, h⟩ := Option.bind_eq_some_iff.1 h
 by_cases c0 : 0 ≤ wi ∧ 0 ≤ off
 case neg => rw [if_pos c0] at h; cases h
 rw [if_neg (fun q => q c0)] at h
 obtain ⟨wh, rfl⟩ := Int.eq_ofNat_of_zero_le c0.1
 by_cases c6 : (wh : Int) < (hd : Int)
 · rw [if_pos (.inl c6)] at h; injection h with h; simp only [crosswayref06_Take.no, Prod.mk.injEq] at h; obtain ⟨rfl, rfl, rfl, rfl, rfl, rfl, rfl, rfl, rfl, rfl, rfl, rfl, rfl, rfl, rfl, rfl⟩ := h; exact crosswayref06_Take.form3 k a0 first t off hd wh w (by omega) h1 c2 c3 hhd (by omega) ht c5 h2 h3 (by omega)
 by_cases c7 : 32768 ≤ off
 · rw [if_pos (.inr c7)] at h; injection h with h; simp only [crosswayref06_Take.no, Prod.mk.injEq] at h; obtain ⟨rfl, rfl, rfl, rfl, rfl, rfl, rfl, rfl, rfl, rfl, rfl, rfl, rfl, rfl, rfl, rfl⟩ := h; exact crosswayref06_Take.form4 k a0 first t off hd wh w (by omega) h1 c2 c3 hhd (by omega) ht c5 h2 h3 (by omega) c7
 rw [if_neg (fun q => q.elim c6 c7)] at h
 by_cases c8 : (a0.size : Int) < (wh : Int)
 · rw [if_pos c8] at h; injection h with h; simp only [crosswayref06_Take.no, Prod.mk.injEq] at h; obtain ⟨rfl, rfl, rfl, rfl, rfl, rfl, rfl, rfl, rfl, rfl, rfl, rfl, rfl, rfl, rfl, rfl⟩ := h; exact crosswayref06_Take.short3 k a0 first t off hd wh w (by omega) h1 c2 c3 hhd (by omega) ht c5 h2 h3 (by omega) c7 (by omega)
 rw [if_neg c8] at h
 unfold crosswayref06_Take.rest at h
 obtain ⟨tos, htos, h⟩ := Option.bind_eq_some_iff.1 h
 obtain ⟨id, hid, h⟩ := Option.bind_eq_some_iff.1 h
 obtain ⟨ttl, httl, h⟩ := Option.bind_eq_some_iff.1 h
 obtain ⟨proto, hproto, h⟩ := Option.bind_eq_some_iff.1 h
 obtain ⟨src, hsrc, h⟩ := Option.bind_eq_some_iff.1 h
 obtain ⟨dst, hdst, h⟩ := Option.bind_eq_some_iff.1 h
 obtain ⟨⟨ol, oe⟩, ho, h⟩ := Option.bind_eq_some_iff.1 h
 simp only [Int.toNat_natCast] at h ho
 by_cases c9 : 0 ≤ off ∧ off ≤ 65535 ∧ 0 ≤ src ∧ src ≤ 4294967295 ∧ 0 ≤ dst ∧ dst ≤ 4294967295
 case neg => rw [if_pos c9] at h; cases h
 rw [if_neg (fun q => q c9)] at h
 obtain ⟨_, _, e1, e2, e3, e4⟩ := c9
 by_cases hoe : oe = 0
 · rw [if_neg (fun q => q hoe)] at h
   injection h with h; simp only [Prod.mk.injEq] at h
   obtain ⟨rfl, rfl, rfl, rfl, rfl, rfl, rfl, rfl, rfl, rfl, rfl, rfl, rfl, rfl, rfl, rfl⟩ := h
   exact crosswayref06_Take.good k a0 first t off tos id ttl proto src dst hd wh ol oe w (by omega) h1 c2 c3 hhd (by omega) ht c5 h2 h3 (by omega) c7 c0.2 (by omega) htos hid httl hproto hsrc hdst ho e1 e2 e3 e4 hoe
 · rw [if_pos hoe] at h
   injection h with h; simp only [crosswayref06_Take.no, Prod.mk.injEq] at h; obtain ⟨rfl, rfl, rfl, rfl, rfl, rfl, rfl, rfl, rfl, rfl, rfl, rfl, rfl, rfl, rfl, rfl⟩ := h
   exact crosswayref06_Take.opts k a0 first t off tos id ttl proto src dst hd wh ol oe w (by omega) h1 c2 c3 hhd (by omega) ht c5 h2 h3 (by omega) c7 c0.2 (by omega) htos hid httl hproto hsrc hdst ho e1 e2 e3 e4 hoe

/-! ### crosswayref06_Hop: function 14 (by hand) -/
def crosswayref06_Hop.f (k : Nat) (a0 : ByteArray) : Option (ByteArray × Int) := (crosswayref06_Take.f k a0).bind fun p =>
 if ¬ p.2.2.2.2.2.2.2.2.2.2.2.2.2.2.2 = 0 then some (⟨#[]⟩, p.2.2.2.2.2.2.2.2.2.2.2.2.2.2.2) else if p.2.2.2.2.2.1 < 2 then some (⟨#[]⟩, 54) else if ¬ p.2.2.2.2.2.1 ≤ 255 then none else
 crosswayref06_Lay.f k p.1 p.2.1 p.2.2.1 p.2.2.2.1 p.2.2.2.2.1 (p.2.2.2.2.2.1 - 1) p.2.2.2.2.2.2.1 p.2.2.2.2.2.2.2.1 p.2.2.2.2.2.2.2.2.1 p.2.2.2.2.2.2.2.2.2.1 p.2.2.2.2.2.2.2.2.2.2.1 p.2.2.2.2.2.2.2.2.2.2.2.1 p.2.2.2.2.2.2.2.2.2.2.2.2.1 p.2.2.2.2.2.2.2.2.2.2.2.2.2.1 p.2.2.2.2.2.2.2.2.2.2.2.2.2.2.1
set_option maxHeartbeats 4000000 in
set_option maxRecDepth 100000 in
theorem crosswayref06_Hop.low (k : Nat) (s : ByteArray) (t1 t2 : Int) (t3 t4 : Bool) (t5 t6 t7 : Int) (t8 : Bool) (t9 t10 : Int) (t11 : Bool) (t12 t13 : Int) (t14 t15 : ByteArray) (er : Int) (r1 : ByteArray) (r2 : Int) (w : World) (ht : crosswayref06_Take.f k s = some (t1, t2, t3, t4, t5, t6, t7, t8, t9, t10, t11, t12, t13, t14, t15, er)) (he : er = 0) (h2 : t6 < 2) :
  Calls Try.prog 14 #[.string s] w fun e w' => e = .returned (.tuple #[.string ⟨#[]⟩, .int .i64 54]) ∧ Below w.heap.size w w' := by
 have HT := Aside0.mk ht
 clear ht
 subst he
 have HB := Aside0.mk (Below.refl w.heap.size w)
 have hu26 := Try.underlying26
 have hu24 := Try.underlying24
 go_enter Try.func14, Try.ntmps14
 go_wp2_with fail
 refine (crosswayref06_Take.calls k s _ _ _ _ _ _ _ _ _ _ _ _ _ _ _ _ _ HT.out).mono ?_
 rintro e w2 ⟨rfl, hb⟩
 replace HB := Aside0.mk (below_step (by repeat (first | (with_reducible first | exact HB.out | apply below_alloc | apply pw_below_drewN | apply below_drew1) | exact HB.out)) hb)
 clear hb
 go_wp2_with fail
 go_ret2
 exact ⟨rfl, (by repeat (first | (with_reducible first | exact HB.out | apply below_alloc | apply pw_below_drewN | apply below_drew1) | exact HB.out))⟩
set_option maxHeartbeats 4000000 in
set_option maxRecDepth 100000 in
theorem crosswayref06_Hop.bad (k : Nat) (s : ByteArray) (t1 t2 : Int) (t3 t4 : Bool) (t5 t6 t7 : Int) (t8 : Bool) (t9 t10 : Int) (t11 : Bool) (t12 t13 : Int) (t14 t15 : ByteArray) (er : Int) (r1 : ByteArray) (r2 : Int) (w : World) (ht : crosswayref06_Take.f k s = some (t1, t2, t3, t4, t5, t6, t7, t8, t9, t10, t11, t12, t13, t14, t15, er)) (h2 : ¬ er = 0) :
  Calls Try.prog 14 #[.string s] w fun e w' => e = .returned (.tuple #[.string ⟨#[]⟩, .int .i64 er]) ∧ Below w.heap.size w w' := by
 have HT := Aside0.mk ht
 clear ht
 have he : (er != 0) = true := by simpa using h2
 clear h2
 have HB := Aside0.mk (Below.refl w.heap.size w)
 have hu26 := Try.underlying26
 have hu24 := Try.underlying24
 go_enter Try.func14, Try.ntmps14
 go_wp2_with fail
 refine (crosswayref06_Take.calls k s _ _ _ _ _ _ _ _ _ _ _ _ _ _ _ _ _ HT.out).mono ?_
 rintro e w2 ⟨rfl, hb⟩
 replace HB := Aside0.mk (below_step (by repeat (first | (with_reducible first | exact HB.out | apply below_alloc | apply pw_below_drewN | apply below_drew1) | exact HB.out)) hb)
 clear hb
 go_wp2_with fail
 go_ret2
 exact ⟨rfl, (by repeat (first | (with_reducible first | exact HB.out | apply below_alloc | apply pw_below_drewN | apply below_drew1) | exact HB.out))⟩
set_option maxHeartbeats 4000000 in
set_option maxRecDepth 100000 in
theorem crosswayref06_Hop.good (k : Nat) (s : ByteArray) (t1 t2 : Int) (t3 t4 : Bool) (t5 t6 t7 : Int) (t8 : Bool) (t9 t10 : Int) (t11 : Bool) (t12 t13 : Int) (t14 t15 : ByteArray) (er : Int) (r1 : ByteArray) (r2 : Int) (w : World) (ht : crosswayref06_Take.f k s = some (t1, t2, t3, t4, t5, t6, t7, t8, t9, t10, t11, t12, t13, t14, t15, er)) (he : er = 0) (h2 : ¬ t6 < 2) (h3 : t6 ≤ 255) (hl : crosswayref06_Lay.f k t1 t2 t3 t4 t5 (t6 - 1) t7 t8 t9 t10 t11 t12 t13 t14 t15 = some (r1, r2)) :
  Calls Try.prog 14 #[.string s] w fun e w' => e = .returned (.tuple #[.string r1, .int .i64 r2]) ∧ Below w.heap.size w w' := by
 have HT := Aside0.mk ht
 clear ht
 subst he
 have HL := Aside0.mk hl
 clear hl
 have HB := Aside0.mk (Below.refl w.heap.size w)
 have hu26 := Try.underlying26
 have hu24 := Try.underlying24
 go_enter Try.func14, Try.ntmps14
 go_wp2_with fail
 refine (crosswayref06_Take.calls k s _ _ _ _ _ _ _ _ _ _ _ _ _ _ _ _ _ HT.out).mono ?_
 rintro e w2 ⟨rfl, hb⟩
 replace HB := Aside0.mk (below_step (by repeat (first | (with_reducible first | exact HB.out | apply below_alloc | apply pw_below_drewN | apply below_drew1) | exact HB.out)) hb)
 clear hb
 go_wp2_with fail
 refine Calls.mono (crosswayref06_Lay.calls k t1 t2 t3 t4 t5 (t6 - 1) t7 t8 t9 t10 t11 t12 t13 t14 t15 r1 r2 _ HL.out) ?_
 rintro e w4 ⟨rfl, hb⟩
 replace HB := Aside0.mk (below_step (by repeat (first | (with_reducible first | exact HB.out | apply below_alloc | apply pw_below_drewN | apply below_drew1) | exact HB.out | refine below_set ?_ (HB.out.size))) hb)
 clear hb
 go_wp2_with fail
 go_ret2
 exact ⟨rfl, HB.out⟩
theorem crosswayref06_Hop.mono : ∀ a0 k, LeO (crosswayref06_Hop.f k a0) (crosswayref06_Hop.f (k + 1) a0) := by
 intro a0 k
 unfold crosswayref06_Hop.f
 exact LeO.bind (crosswayref06_Take.mono _ _) (fun _ => LeO.ite (LeO.refl _) (LeO.ite (LeO.refl _) (LeO.ite (LeO.refl _) (crosswayref06_Lay.mono _ _ _ _ _ _ _ _ _ _ _ _ _ _ _ _))))
theorem crosswayref06_Hop.calls (k : Nat) (a0 : ByteArray) (r1 : ByteArray) (r2 : Int) (w : World) (h : crosswayref06_Hop.f k a0 = some (r1, r2)) :
  Calls Try.prog 14 #[.string a0] w fun e w' => e = .returned (.tuple #[.string r1, .int .i64 r2]) ∧ Below w.heap.size w w' := by
 unfold crosswayref06_Hop.f at h
 obtain ⟨⟨t1, t2, t3, t4, t5, t6, t7, t8, t9, t10, t11, t12, t13, t14, t15, er⟩, ht, h⟩ := Option.bind_eq_some_iff.1 h
 simp only at h
 by_cases he : er = 0
 case neg =>
  rw [if_pos he] at h; injection h with h; injection h with e1 e2; subst e1 e2
  exact crosswayref06_Hop.bad k a0 t1 t2 t3 t4 t5 t6 t7 t8 t9 t10 t11 t12 t13 t14 t15 er ⟨#[]⟩ 0 w ht he
 rw [if_neg (fun q => q he)] at h
 by_cases h4 : t6 < 2
 · rw [if_pos h4] at h; injection h with h; injection h with e1 e2; subst e1 e2
   exact crosswayref06_Hop.low k a0 t1 t2 t3 t4 t5 t6 t7 t8 t9 t10 t11 t12 t13 t14 t15 er ⟨#[]⟩ 0 w ht he h4
 rw [if_neg h4] at h
 by_cases h5 : t6 ≤ 255
 case neg => rw [if_pos h5] at h; cases h
 rw [if_neg (fun q => q h5)] at h
 exact crosswayref06_Hop.good k a0 t1 t2 t3 t4 t5 t6 t7 t8 t9 t10 t11 t12 t13 t14 t15 er r1 r2 w ht he h4 h5 h

end Go.Proofs.Ytedampcicmaamaa.PBase
