/- Functions of the program as Lean functions, each with a proof that a call comes to what it says. Conditions: those of each theorem. Laid by a program of this session. -/
import Derived.Test.YtedampcicmaamaaPBasex0
import Derived.Test.YtedampcicmaamaaPBasex3
import Derived.Test.YtedampcicmaamaaPBasex4
import Derived.Test.YtedampcicmaamaaPBasex5
namespace Go.Proofs.Ytedampcicmaamaa.PBase
open Go.RowKit Go.Proofs.Ytedampcicmaamaa Go.Proofs.YtedampcicmaamaaW.PrintWords Go.Proofs.YtedampcicmaamaaW.PrintLast Go.Proofs.YtedampcicmaamaaW.PrintMore
attribute [local go_sem] max2_int min2_int max_two min_two max_three min_three max_four min_four   -- for this text's walks alone
set_option linter.unusedVariables false
set_option linter.unusedSimpArgs false

/-! ### ip4_Take: function 11 (by hand) -/
/-- A number that is there. -/
def ip4_Take.num (k : Nat) (l : List Int) (w : Int) : Option Int := (octet_Get.f k l 0 w).bind fun n => if n.2 = true then some n.1 else none
theorem ip4_Take.num_get {k : Nat} {l : List Int} {w n : Int} (h : ip4_Take.num k l w = some n) : octet_Get.f k l 0 w = some (n, true) := by
 unfold ip4_Take.num at h
 obtain ⟨⟨a, b⟩, h1, h2⟩ := Option.bind_eq_some_iff.1 h
 split at h2
 · rename_i hb
   injection h2 with h2
   simp only at hb h2
   rw [h1, hb, h2]
 · cases h2
theorem ip4_Take.num_mono (l : List Int) (w : Int) (k : Nat) : LeO (ip4_Take.num k l w) (ip4_Take.num (k + 1) l w) := by
 unfold ip4_Take.num
 exact LeO.bind (octet_Get.mono _ _ _ _) (fun _ => LeO.refl _)
/-- Nothing, and why. -/
def ip4_Take.no (e : Int) : Int × Int × Bool × Bool × Int × Int × Int × Bool × Int × Int × Bool × Int × Int × ByteArray × ByteArray × Int := (0, 0, false, false, 0, 0, 0, false, 0, 0, false, 0, 0, ⟨#[]⟩, ⟨#[]⟩, e)
/-- What the ten numbers of a header and its options come to. -/
def ip4_Take.fin (s : ByteArray) (hd wh tos id off ttl proto src dst : Int) (o : List S44 × Int) : Option (Int × Int × Bool × Bool × Int × Int × Int × Bool × Int × Int × Bool × Int × Int × ByteArray × ByteArray × Int) :=
 if ¬ (0 ≤ tos ∧ tos ≤ 255 ∧ 0 ≤ id ∧ id ≤ 65535 ∧ 0 ≤ off ∧ off ≤ 65535 ∧ 0 ≤ ttl ∧ ttl ≤ 255 ∧ 0 ≤ proto ∧ proto ≤ 255) then none else
 if ¬ o.2 = 0 then some (ip4_Take.no o.2) else some (tos, id, Go.bits .and .i64 off 16384 != 0, Go.bits .and .i64 off 8192 != 0, Go.bits .and .i64 off 8191, ttl, proto, false, 0, src, false, 0, dst, s.extract 20 hd.toNat, s.extract hd.toNat wh.toNat, 0)
def ip4_Take.f (k : Nat) (s : ByteArray) : Option (Int × Int × Bool × Bool × Int × Int × Int × Bool × Int × Int × Bool × Int × Int × ByteArray × ByteArray × Int) :=
 (ip4_heads.f k s).bind fun h => if ¬ h.2.2 = 0 then some (ip4_Take.no h.2.2) else if ¬ (20 ≤ h.1 ∧ h.1 ≤ h.2.1 ∧ h.2.1 ≤ (s.size : Int)) then none else
 (ip4_Take.num k (bytesOf (s.extract 0 20)) 1).bind fun n0 => (ip4_Take.num k ((bytesOf (s.extract 0 20)).drop 1) 1).bind fun tos => (ip4_Take.num k ((bytesOf (s.extract 0 20)).drop 2) 2).bind fun n2 =>
 (ip4_Take.num k ((bytesOf (s.extract 0 20)).drop 4) 2).bind fun id => (ip4_Take.num k ((bytesOf (s.extract 0 20)).drop 6) 2).bind fun off => (ip4_Take.num k ((bytesOf (s.extract 0 20)).drop 8) 1).bind fun ttl => (ip4_Take.num k ((bytesOf (s.extract 0 20)).drop 9) 1).bind fun proto =>
 (ip4_Take.num k ((bytesOf (s.extract 0 20)).drop 10) 2).bind fun n10 => (ip4_Take.num k ((bytesOf (s.extract 0 20)).drop 12) 4).bind fun src => (ip4_Take.num k ((bytesOf (s.extract 0 20)).drop 16) 4).bind fun dst =>
 (ip4_Options.f (s.extract 20 h.1.toNat)).bind fun o => ip4_Take.fin s h.1 h.2.1 tos id off ttl proto src dst o
/-- A reader at work, and blocks beside it that its calls do not touch; nothing below wb has changed. -/
structure RS (T : Nat) (wb : World) (bs : List (Nat × Obj)) (g b : Nat) (l : List Int) (W : World) : Prop where mk ::
 (rd : MReader.Rdr T W g b l false)
 (keep : ∀ x ∈ bs, W.heap[x.1]? = some x.2 ∧ x.1 ≠ g ∧ x.1 ≠ b)
 (below : Below wb.heap.size wb W)
 (ge : wb.heap.size ≤ g)
section
variable {T g b : Nat} {wb W W2 : World} {bs : List (Nat × Obj)} {l l2 : List Int}
theorem RS.num (h : RS T wb bs g b l W) (hgr : W.grownBy W2 (some g)) (hr : MReader.Rdr T W2 g b l2 false) : RS T wb bs g b l2 W2 :=
 ⟨hr, fun x hx => by
  obtain ⟨h1, h2, h3⟩ := h.keep x hx
  exact ⟨(hgr.block _ (Array.getElem?_eq_some_iff.1 h1).1 (fun e => h2 (by injection e))).trans h1, h2, h3⟩, MReader.below_grown h.below hgr h.ge h.below.size, h.ge⟩
theorem RS.more (h : RS T wb bs g b l W) (hb : Below W.heap.size W W2) : RS T wb bs g b l W2 :=
 ⟨h.rd.below hb, fun x hx => by
  obtain ⟨h1, h2, h3⟩ := h.keep x hx
  exact ⟨MStr.block_below h1 hb, h2, h3⟩, below_then h.below h.below.size hb, h.ge⟩
theorem RS.alloc (h : RS T wb bs g b l W) (o : Obj) : RS T wb ((W.heap.size, o) :: bs) g b l (W.alloc o) := by
 have h2 := h.more (W2 := W.alloc o) (below_alloc (Below.refl _ _) o)
 refine ⟨h2.rd, fun x hx => ?_, h2.below, h2.ge⟩
 rcases List.mem_cons.1 hx with rfl | hx
 · exact ⟨heap_alloc_new W o, by have := h.rd.glt; simp only; omega, by have := h.rd.lt; simp only; omega⟩
 · exact h2.keep x hx
theorem RS.set {gp t : Nat} {cs : Array Value} (h : RS T wb ((gp, .cells cs t (0, 0)) :: bs) g b l W) (hge : wb.heap.size ≤ gp) (hne : ∀ x ∈ bs, x.1 ≠ gp) (j : Nat) (v : Value) :
  RS T wb ((gp, .cells (cs.setIfInBounds j v) t (0, 0)) :: bs) g b l (W.setCell ⟨gp, j, none⟩ v) := by
 obtain ⟨h1, h2, h3⟩ := h.keep _ (List.mem_cons_self ..)
 have hot : ∀ q, q ≠ gp → (W.setCell ⟨gp, j, none⟩ v).heap[q]? = W.heap[q]? := fun q hq => Below.heap_setCell W ⟨gp, j, none⟩ v q hq
 refine ⟨h.rd.keep (hot g (fun e => h2 e.symm)) (hot b (fun e => h3 e.symm)) (by simp [World.setCell]), fun x hx => ?_, below_set h.below hge, h.ge⟩
 rcases List.mem_cons.1 hx with rfl | hx
 · exact ⟨MReader.setCell_heap h1, h2, h3⟩
 · obtain ⟨k1, k2, k3⟩ := h.keep x (List.mem_cons_of_mem _ hx)
   exact ⟨(hot _ (hne x hx)).trans k1, k2, k3⟩
theorem RS.cell (h : RS T wb bs g b l W) {gp t j : Nat} {cs : Array Value} {v : Value} (hm : (gp, Obj.cells cs t (0, 0)) ∈ bs) (hj : cs[j]? = some v) : W.cell? ⟨gp, j, none⟩ = some v := MStr.block_cell (h.keep _ hm).1 hj
theorem RS.free (h : RS T wb bs g b l W) {gp t : Nat} (j : Nat) {cs : Array Value} (hm : (gp, Obj.cells cs t (0, 0)) ∈ bs) : W.frozen? ⟨gp, j, none⟩ = false := MStr.block_frozen (h.keep _ hm).1
end

theorem RS.set' {T g b gp t : Nat} {wb W : World} {bs : List (Nat × Obj)} {l : List Int} {cs cs2 : Array Value} (h : RS T wb ((gp, .cells cs t (0, 0)) :: bs) g b l W) (hge : wb.heap.size ≤ gp) (hne : ∀ x ∈ bs, x.1 ≠ gp) (j : Nat) (v : Value) (he : cs.setIfInBounds j v = cs2) :
  RS T wb ((gp, .cells cs2 t (0, 0)) :: bs) g b l (W.setCell ⟨gp, j, none⟩ v) := he ▸ h.set hge hne j v
theorem RS.all15 {T g b gp t : Nat} {wb W : World} {bs : List (Nat × Obj)} {l : List Int} {v0 v1 v2 v3 v4 v5 v6 v7 v8 v9 v10 v11 v12 v13 v14 : Value} (h : RS T wb ((gp, .cells #[v0, v1, v2, v3, v4, v5, v6, v7, v8, v9, v10, v11, v12, v13, v14] t (0, 0)) :: bs) g b l W) (hge : wb.heap.size ≤ gp) (hne : ∀ x ∈ bs, x.1 ≠ gp) (b0 b1 b2 b3 b4 b5 b6 b7 b8 b9 b10 b11 b12 b13 b14 : Value) : RS T wb ((gp, .cells #[b0, b1, b2, b3, b4, b5, b6, b7, b8, b9, b10, b11, b12, b13, b14] t (0, 0)) :: bs) g b l (((((((((((((((W.setCell ⟨gp, 0, none⟩ b0).setCell ⟨gp, 1, none⟩ b1).setCell ⟨gp, 2, none⟩ b2).setCell ⟨gp, 3, none⟩ b3).setCell ⟨gp, 4, none⟩ b4).setCell ⟨gp, 5, none⟩ b5).setCell ⟨gp, 6, none⟩ b6).setCell ⟨gp, 7, none⟩ b7).setCell ⟨gp, 8, none⟩ b8).setCell ⟨gp, 9, none⟩ b9).setCell ⟨gp, 10, none⟩ b10).setCell ⟨gp, 11, none⟩ b11).setCell ⟨gp, 12, none⟩ b12).setCell ⟨gp, 13, none⟩ b13).setCell ⟨gp, 14, none⟩ b14) := by
 replace h := h.set hge hne 0 b0
 rw [show (#[v0, v1, v2, v3, v4, v5, v6, v7, v8, v9, v10, v11, v12, v13, v14] : Array Value).setIfInBounds 0 b0 = #[b0, v1, v2, v3, v4, v5, v6, v7, v8, v9, v10, v11, v12, v13, v14] from rfl] at h
 replace h := h.set hge hne 1 b1
 rw [show (#[b0, v1, v2, v3, v4, v5, v6, v7, v8, v9, v10, v11, v12, v13, v14] : Array Value).setIfInBounds 1 b1 = #[b0, b1, v2, v3, v4, v5, v6, v7, v8, v9, v10, v11, v12, v13, v14] from rfl] at h
 replace h := h.set hge hne 2 b2
 rw [show (#[b0, b1, v2, v3, v4, v5, v6, v7, v8, v9, v10, v11, v12, v13, v14] : Array Value).setIfInBounds 2 b2 = #[b0, b1, b2, v3, v4, v5, v6, v7, v8, v9, v10, v11, v12, v13, v14] from rfl] at h
 replace h := h.set hge hne 3 b3
 rw [show (#[b0, b1, b2, v3, v4, v5, v6, v7, v8, v9, v10, v11, v12, v13, v14] : Array Value).setIfInBounds 3 b3 = #[b0, b1, b2, b3, v4, v5, v6, v7, v8, v9, v10, v11, v12, v13, v14] from rfl] at h
 replace h := h.set hge hne 4 b4
 rw [show (#[b0, b1, b2, b3, v4, v5, v6, v7, v8, v9, v10, v11, v12, v13, v14] : Array Value).setIfInBounds 4 b4 = #[b0, b1, b2, b3, b4, v5, v6, v7, v8, v9, v10, v11, v12, v13, v14] from rfl] at h
 replace h := h.set hge hne 5 b5
 rw [show (#[b0, b1, b2, b3, b4, v5, v6, v7, v8, v9, v10, v11, v12, v13, v14] : Array Value).setIfInBounds 5 b5 = #[b0, b1, b2, b3, b4, b5, v6, v7, v8, v9, v10, v11, v12, v13, v14] from rfl] at h
 replace h := h.set hge hne 6 b6
 rw [show (#[b0, b1, b2, b3, b4, b5, v6, v7, v8, v9, v10, v11, v12, v13, v14] : Array Value).setIfInBounds 6 b6 = #[b0, b1, b2, b3, b4, b5, b6, v7, v8, v9, v10, v11, v12, v13, v14] from rfl] at h
 replace h := h.set hge hne 7 b7
 rw [show (#[b0, b1, b2, b3, b4, b5, b6, v7, v8, v9, v10, v11, v12, v13, v14] : Array Value).setIfInBounds 7 b7 = #[b0, b1, b2, b3, b4, b5, b6, b7, v8, v9, v10, v11, v12, v13, v14] from rfl] at h
 replace h := h.set hge hne 8 b8
 rw [show (#[b0, b1, b2, b3, b4, b5, b6, b7, v8, v9, v10, v11, v12, v13, v14] : Array Value).setIfInBounds 8 b8 = #[b0, b1, b2, b3, b4, b5, b6, b7, b8, v9, v10, v11, v12, v13, v14] from rfl] at h
 replace h := h.set hge hne 9 b9
 rw [show (#[b0, b1, b2, b3, b4, b5, b6, b7, b8, v9, v10, v11, v12, v13, v14] : Array Value).setIfInBounds 9 b9 = #[b0, b1, b2, b3, b4, b5, b6, b7, b8, b9, v10, v11, v12, v13, v14] from rfl] at h
 replace h := h.set hge hne 10 b10
 rw [show (#[b0, b1, b2, b3, b4, b5, b6, b7, b8, b9, v10, v11, v12, v13, v14] : Array Value).setIfInBounds 10 b10 = #[b0, b1, b2, b3, b4, b5, b6, b7, b8, b9, b10, v11, v12, v13, v14] from rfl] at h
 replace h := h.set hge hne 11 b11
 rw [show (#[b0, b1, b2, b3, b4, b5, b6, b7, b8, b9, b10, v11, v12, v13, v14] : Array Value).setIfInBounds 11 b11 = #[b0, b1, b2, b3, b4, b5, b6, b7, b8, b9, b10, b11, v12, v13, v14] from rfl] at h
 replace h := h.set hge hne 12 b12
 rw [show (#[b0, b1, b2, b3, b4, b5, b6, b7, b8, b9, b10, b11, v12, v13, v14] : Array Value).setIfInBounds 12 b12 = #[b0, b1, b2, b3, b4, b5, b6, b7, b8, b9, b10, b11, b12, v13, v14] from rfl] at h
 replace h := h.set hge hne 13 b13
 rw [show (#[b0, b1, b2, b3, b4, b5, b6, b7, b8, b9, b10, b11, b12, v13, v14] : Array Value).setIfInBounds 13 b13 = #[b0, b1, b2, b3, b4, b5, b6, b7, b8, b9, b10, b11, b12, b13, v14] from rfl] at h
 replace h := h.set hge hne 14 b14
 rw [show (#[b0, b1, b2, b3, b4, b5, b6, b7, b8, b9, b10, b11, b12, b13, v14] : Array Value).setIfInBounds 14 b14 = #[b0, b1, b2, b3, b4, b5, b6, b7, b8, b9, b10, b11, b12, b13, b14] from rfl] at h
 exact h
theorem ip4_Take.rs {bs : List (Nat × Obj)} {wb W : World} {g b : Nat} {l : List Int} (h : RS 67 wb bs g b l W) {k : Nat} {width n : Int} (hg : octet_Get.f k l 0 width = some (n, true)) (h0 : 0 ≤ width) (h1 : width ≤ (l.length : Int)) :
  Calls Try.prog 30 #[.pointer (some ⟨g, 0, none⟩), .int .i64 width] W fun e w' => e = .returned (.int .u64 n) ∧ RS 67 wb bs g b (l.drop width.toNat) w' :=
 (octet_Reader_Num.ok k g b l width n W h.rd hg h0 h1).mono fun _ _ ⟨he, hr, hgr⟩ => ⟨he, h.num hgr hr⟩
set_option maxHeartbeats 4000000 in
set_option maxRecDepth 100000 in
theorem ip4_Take.good (k : Nat) (s : ByteArray) (hd wh : Nat) (n0 tos n2 id off ttl proto n10 src dst off2 : Int) (df mf : Bool) (ol : List S44) (oe : Int) (w : World) (hh : ip4_heads.f k s = some ((hd : Int), (wh : Int), 0)) (h20 : 20 ≤ hd) (hhw : hd ≤ wh) (hws : wh ≤ s.size)
  (hn0 : ip4_Take.num k (bytesOf (s.extract 0 20)) 1 = some n0)
  (htos : ip4_Take.num k ((bytesOf (s.extract 0 20)).drop 1) 1 = some tos)
  (hn2 : ip4_Take.num k ((bytesOf (s.extract 0 20)).drop 2) 2 = some n2)
  (hid : ip4_Take.num k ((bytesOf (s.extract 0 20)).drop 4) 2 = some id)
  (hoff : ip4_Take.num k ((bytesOf (s.extract 0 20)).drop 6) 2 = some off)
  (httl : ip4_Take.num k ((bytesOf (s.extract 0 20)).drop 8) 1 = some ttl)
  (hproto : ip4_Take.num k ((bytesOf (s.extract 0 20)).drop 9) 1 = some proto)
  (hn10 : ip4_Take.num k ((bytesOf (s.extract 0 20)).drop 10) 2 = some n10)
  (hsrc : ip4_Take.num k ((bytesOf (s.extract 0 20)).drop 12) 4 = some src)
  (hdst : ip4_Take.num k ((bytesOf (s.extract 0 20)).drop 16) 4 = some dst)
  (ho : ip4_Options.f (s.extract 20 hd) = some (ol, oe)) (r1 : 0 ≤ tos ∧ tos ≤ 255) (r2 : 0 ≤ id ∧ id ≤ 65535) (r3 : 0 ≤ off ∧ off ≤ 65535) (r4 : 0 ≤ ttl ∧ ttl ≤ 255) (r5 : 0 ≤ proto ∧ proto ≤ 255)
  (e1 : Go.bits .and .i64 off 8191 = off2) (e2 : (Go.bits .and .i64 off 16384 != 0) = df) (e3 : (Go.bits .and .i64 off 8192 != 0) = mf) (hoe : oe = 0) :
  Calls Try.prog 11 #[.string s] w fun e w' => e = .returned (.tuple #[.agg #[.int .i64 tos, .int .i64 id, .bool df, .bool mf, .int .i64 off2, .int .i64 ttl, .int .i64 proto, .bool false, .int .u64 0, .int .u64 src, .bool false, .int .u64 0, .int .u64 dst, .string (s.extract 20 hd), .string (s.extract hd wh)], .int .i64 0]) ∧ Below w.heap.size w w' := by
 obtain ⟨L, hL⟩ : ∃ L, bytesOf (s.extract 0 20) = L := ⟨_, rfl⟩
 have hlen : L.length = 20 := by rw [← hL, bytesOf_length]; simp; omega
 rw [hL] at hn0 htos hn2 hid hoff httl hproto hn10 hsrc hdst
 have HLE := Aside0.mk hL; have HN := Aside0.mk hlen
 have Hn0 := Aside0.mk (ip4_Take.num_get hn0); have Htos := Aside0.mk (ip4_Take.num_get htos); have Hn2 := Aside0.mk (ip4_Take.num_get hn2); have Hid := Aside0.mk (ip4_Take.num_get hid); have Hoff := Aside0.mk (ip4_Take.num_get hoff); have Httl := Aside0.mk (ip4_Take.num_get httl); have Hproto := Aside0.mk (ip4_Take.num_get hproto); have Hn10 := Aside0.mk (ip4_Take.num_get hn10); have Hsrc := Aside0.mk (ip4_Take.num_get hsrc); have Hdst := Aside0.mk (ip4_Take.num_get hdst)
 have HH := Aside0.mk hh; have HO := Aside0.mk ho
 clear hh ho hL hlen hn0 htos hn2 hid hoff httl hproto hn10 hsrc hdst
 obtain ⟨p1, q1⟩ := r1; obtain ⟨p2, q2⟩ := r2; obtain ⟨p3, q3⟩ := r3; obtain ⟨p4, q4⟩ := r4; obtain ⟨p5, q5⟩ := r5
 obtain ⟨wa, hwa⟩ : ∃ wa, w.alloc (.cells #[.int .i64 0, .int .i64 0, .bool false, .bool false, .int .i64 0, .int .i64 0, .int .i64 0, .bool false, .int .u64 0, .int .u64 0, .bool false, .int .u64 0, .int .u64 0, .string ⟨#[]⟩, .string ⟨#[]⟩] 26) = wa := ⟨_, rfl⟩
 have HBA := Aside0.mk (show Below w.heap.size w wa by rw [← hwa]; exact below_alloc (Below.refl _ _) _)
 have HX := Aside0.mk (show wa.heap[w.heap.size]? = some (.cells #[.int .i64 0, .int .i64 0, .bool false, .bool false, .int .i64 0, .int .i64 0, .int .i64 0, .bool false, .int .u64 0, .int .u64 0, .bool false, .int .u64 0, .int .u64 0, .string ⟨#[]⟩, .string ⟨#[]⟩] 26 (0, 0)) by rw [← hwa]; exact heap_alloc_new _ _)
 have hu26 := Try.underlying26
 have hu24 := Try.underlying24
 have kb := fun s W => print_bytes (P := Try.prog) 9 45 5 Try.underlying9 Try.underlying45 Try.underlying5 s W
 have hi20 : ((20 : Int) ≤ (s.size : Int)) = True := eq_true (by omega)
 have e20 : (s.extract 0 20).size = 20 := by simp; omega
 have m20 : min 20 s.size = 20 := by omega
 have HHW := Aside0.mk hhw; have HWZ := Aside0.mk hws; have H20 := Aside0.mk h20
 clear hhw hws h20
 go_enter Try.func11, Try.ntmps11
 go_wp2_with fail
 clear hwa
 refine (ip4_heads.calls k s _ _ _ _ HH.out).mono ?_
 rintro e wb ⟨rfl, hb⟩
 have HBW := Aside0.mk (below_step HBA.out hb)
 have HWS := Aside0.mk (show w.heap.size < wb.heap.size from Nat.lt_of_lt_of_le (Array.getElem?_eq_some_iff.1 HX.out).1 hb.size)
 replace HX := Aside0.mk (MStr.block_below HX.out hb)
 clear hb
 go_wp2_with fail
 have hC := MStr.C_bytes wb 5 (s.extract 0 20) (by rw [e20]; decide)
 rw [HLE.out, e20] at hC
 have hcall := octet_New.calls (some ⟨wb.heap.size, 0, none⟩) (grownCap wb 20 0 5) L (Lib.bytesWorld wb 5 (s.extract 0 20)) (by rw [HN.out]; exact hC) (by rw [HN.out]; exact grownCap_ge _ _ _ _) (by rw [HN.out]; decide)
 rw [HN.out] at hcall
 clear hC kb
 refine hcall.mono ?_
 rintro e w2 ⟨g, bb, rfl, hrd, hg, hbb, hb⟩
 have hbw : Below wb.heap.size wb (Lib.bytesWorld wb 5 (s.extract 0 20)) := bytes_below (Below.refl _ _) (Nat.le_refl _) _ _
 have hsz : (Lib.bytesWorld wb 5 (s.extract 0 20)).heap.size = wb.heap.size + 1 := Lib.bytesWorld_size _ _ _
 have HRS := Aside0.mk (show RS 67 wb [(w.heap.size, .cells #[.int .i64 0, .int .i64 0, .bool false, .bool false, .int .i64 0, .int .i64 0, .int .i64 0, .bool false, .int .u64 0, .int .u64 0, .bool false, .int .u64 0, .int .u64 0, .string ⟨#[]⟩, .string ⟨#[]⟩] 26 (0, 0))] g bb L w2 from ⟨hrd, fun x hx => by
  obtain rfl := List.mem_singleton.1 hx
  exact ⟨MStr.block_below HX.out (below_step hbw hb), by have := HWS.out; simp only; omega, by have := HWS.out; simp only; omega⟩, below_step hbw hb, by omega⟩)
 clear hcall hrd hg hbb hb hbw hsz HX e20 m20
 go_wp2_with fail
 refine (ip4_Take.rs HRS.out Hn0.out (by decide) (by (try rw [List.length_drop]); rw [HN.out]; decide)).mono ?_
 rintro e w3 ⟨rfl, hrs⟩
 replace HRS := Aside0.mk (show RS 67 wb _ g bb (L.drop 1) w3 by have := hrs; rw [show (1 : Int).toNat = 1 from rfl] at this; exact this)
 clear hrs
 have hhw := HHW.out; have hws := HWZ.out; have h20 := H20.out
 have g1 : ((20 : Int) ≤ (hd : Int)) = True := eq_true (by omega)
 have g2 : ((hd : Int) ≤ (s.size : Int)) = True := eq_true (by omega)
 have g3 : ((hd : Int) ≤ (wh : Int)) = True := eq_true (by omega)
 have g4 : ((wh : Int) ≤ (s.size : Int)) = True := eq_true (by omega)
 have g5 : ((0 : Int) ≤ (hd : Int)) = True := eq_true (by omega)
 have g6 : ((0 : Int) ≤ (wh : Int)) = True := eq_true (by omega)
 have ew : IntKind.i64.wrap tos = tos := by simp only [i64_w]; unfold wrap64; omega
 clear hhw hws h20
 have HW3 := Aside0.mk (show wb.heap.size ≤ w3.heap.size from HRS.out.below.size)
 go_upto_region 6 with (fail)
 go_cut [8] (fun v8 wc => ∃ gp : Nat, v8 = .pointer (some ⟨gp, 0, none⟩) ∧ Aside0 (RS 67 wb [(gp, .cells #[.int .i64 tos, .int .i64 0, .bool false, .bool false, .int .i64 0, .int .i64 0, .int .i64 0, .bool false, .int .u64 0, .int .u64 0, .bool false, .int .u64 0, .int .u64 0, .string (s.extract 20 hd), .string (s.extract hd wh)] 26 (0, 0)), (w.heap.size, .cells #[.int .i64 0, .int .i64 0, .bool false, .bool false, .int .i64 0, .int .i64 0, .int .i64 0, .bool false, .int .u64 0, .int .u64 0, .bool false, .int .u64 0, .int .u64 0, .string ⟨#[]⟩, .string ⟨#[]⟩] 26 (0, 0))] g bb (L.drop 2) wc) ∧ Aside0 (wb.heap.size ≤ gp))
 case first =>
   go_region_held3 (fun w' => True) (trivial) (first | (go_at_call 30; refine (ip4_Take.rs (HRS.out.more (below_drew1 (Below.refl _ _))) Htos.out (by decide) (by rw [List.length_drop, HN.out]; decide)).mono ?_; rintro e w5 ⟨rfl, hrs⟩; have HW5 := Aside0.mk hrs.below.size; have HRT := Aside0.mk (show RS 67 wb _ g bb (L.drop 2) w5 by have := hrs; rw [show (1 : Int).toNat = 1 from rfl, List.drop_drop] at this; exact this); clear hrs HRS) | (go_at_call 30; refine (ip4_Take.rs ((HRS.out.alloc (.cells #[.int .i64 0, .int .i64 0, .bool false, .bool false, .int .i64 0, .int .i64 0, .int .i64 0, .bool false, .int .u64 0, .int .u64 0, .bool false, .int .u64 0, .int .u64 0, .string ⟨#[]⟩, .string ⟨#[]⟩] 26)).more (below_drew1 (Below.refl _ _))) Htos.out (by decide) (by rw [List.length_drop, HN.out]; decide)).mono ?_; rintro e w5 ⟨rfl, hrs⟩; obtain ⟨y0, y1, y2, y3, y4, y5, y6, y7, y8, y9, y10, y11, y12, y13, y14⟩ := MBlk.c15 (hrs.keep _ (List.mem_cons_self ..)).1; obtain ⟨z0, z1, z2, z3, z4, z5, z6, z7, z8, z9, z10, z11, z12, z13, z14⟩ := MBlk.f15 (hrs.keep _ (List.mem_cons_self ..)).1; have HW5 := Aside0.mk hrs.below.size; have HRT := Aside0.mk (show RS 67 wb _ g bb (L.drop 2) w5 by have := hrs; rw [show (1 : Int).toNat = 1 from rfl, List.drop_drop] at this; exact this); clear hrs HRS))
   · go_wp2
     go_meet
     case rel => exact ⟨_, rfl, ⟨HRT.out.alloc _⟩, ⟨HRT.out.below.size⟩⟩
   · go_wp2
     go_meet
     case rel =>
      have HGE := HW3.out
      have HNE : ∀ x ∈ [(w.heap.size, Obj.cells #[.int .i64 0, .int .i64 0, .bool false, .bool false, .int .i64 0, .int .i64 0, .int .i64 0, .bool false, .int .u64 0, .int .u64 0, .bool false, .int .u64 0, .int .u64 0, .string ⟨#[]⟩, .string ⟨#[]⟩] 26 (0, 0))], x.1 ≠ w3.heap.size := by
       intro x hx; obtain rfl := List.mem_singleton.1 hx; have := HWS.out; simp only; omega
      exact ⟨_, rfl, ⟨RS.all15 HRT.out HGE HNE (.int .i64 tos) (.int .i64 0) (.bool false) (.bool false) (.int .i64 0) (.int .i64 0) (.int .i64 0) (.bool false) (.int .u64 0) (.int .u64 0) (.bool false) (.int .u64 0) (.int .u64 0) (.string (s.extract 20 hd)) (.string (s.extract hd wh))⟩, ⟨by have := HW3.out; omega⟩⟩
 case rest =>
  clear HRS
  obtain ⟨gp, rfl, HRS, HGP⟩ := hcut
  have HGE := HGP.out
  have HNE : ∀ x ∈ [(w.heap.size, Obj.cells #[.int .i64 0, .int .i64 0, .bool false, .bool false, .int .i64 0, .int .i64 0, .int .i64 0, .bool false, .int .u64 0, .int .u64 0, .bool false, .int .u64 0, .int .u64 0, .string ⟨#[]⟩, .string ⟨#[]⟩] 26 (0, 0))], x.1 ≠ gp := by
   intro x hx; obtain rfl := List.mem_singleton.1 hx; have := HWS.out; simp only; omega
  have AGE := Aside0.mk HGE; have ANE := Aside0.mk HNE
  clear HGE HNE HGP ew g1 g2 g3 g4 g5 g6 hi20
  go_wp2_with fail
  refine (ip4_Take.rs HRS.out Hn2.out (by decide) (by (try rw [List.length_drop]); rw [HN.out]; decide)).mono ?_
  rintro e w4 ⟨rfl, hrs⟩
  replace HRS := Aside0.mk (show RS 67 wb _ g bb (L.drop 4) w4 by have := hrs; rw [show (2 : Int).toNat = 2 from rfl, List.drop_drop] at this; exact this)
  clear hrs
  go_wp2_with fail
  refine (ip4_Take.rs HRS.out Hid.out (by decide) (by (try rw [List.length_drop]); rw [HN.out]; decide)).mono ?_
  rintro e w11 ⟨rfl, hrs⟩
  replace HRS := Aside0.mk (show RS 67 wb _ g bb (L.drop 6) w11 by have := hrs; rw [show (2 : Int).toNat = 2 from rfl, List.drop_drop] at this; exact this)
  clear hrs
  have ew2 : IntKind.i64.wrap id = id := by simp only [i64_w]; unfold wrap64; omega
  have y1 := HRS.out.cell (j := 1) (List.mem_cons_self ..) rfl
  have z1 := HRS.out.free 1 (List.mem_cons_self ..)
  go_wp2_with fail
  clear y1 z1
  have HGE := AGE.out; have HNE := ANE.out
  replace HRS := Aside0.mk (show RS 67 wb [(gp, .cells #[.int .i64 tos, .int .i64 id, .bool false, .bool false, .int .i64 0, .int .i64 0, .int .i64 0, .bool false, .int .u64 0, .int .u64 0, .bool false, .int .u64 0, .int .u64 0, .string (s.extract 20 hd), .string (s.extract hd wh)] 26 (0, 0)), (w.heap.size, .cells #[.int .i64 0, .int .i64 0, .bool false, .bool false, .int .i64 0, .int .i64 0, .int .i64 0, .bool false, .int .u64 0, .int .u64 0, .bool false, .int .u64 0, .int .u64 0, .string ⟨#[]⟩, .string ⟨#[]⟩] 26 (0, 0))] g bb _ _ from (RS.set' (cs2 := #[.int .i64 tos, .int .i64 id, .bool false, .bool false, .int .i64 0, .int .i64 0, .int .i64 0, .bool false, .int .u64 0, .int .u64 0, .bool false, .int .u64 0, .int .u64 0, .string (s.extract 20 hd), .string (s.extract hd wh)]) HRS.out HGE HNE 1 (.int .i64 id) rfl))
  clear HGE HNE
  refine (ip4_Take.rs HRS.out Hoff.out (by decide) (by (try rw [List.length_drop]); rw [HN.out]; decide)).mono ?_
  rintro e w12 ⟨rfl, hrs⟩
  replace HRS := Aside0.mk (show RS 67 wb _ g bb (L.drop 8) w12 by have := hrs; rw [show (2 : Int).toNat = 2 from rfl, List.drop_drop] at this; exact this)
  clear hrs
  have ew3 : IntKind.i64.wrap off = off := by simp only [i64_w]; unfold wrap64; omega
  have y4 := HRS.out.cell (j := 4) (List.mem_cons_self ..) rfl
  have z4 := HRS.out.free 4 (List.mem_cons_self ..)
  have y2 := HRS.out.cell (j := 2) (List.mem_cons_self ..) rfl
  have z2 := HRS.out.free 2 (List.mem_cons_self ..)
  have y3 := HRS.out.cell (j := 3) (List.mem_cons_self ..) rfl
  have z3 := HRS.out.free 3 (List.mem_cons_self ..)
  go_wp2_with fail
  clear y4 z4 y2 z2 y3 z3
  have HGE := AGE.out; have HNE := ANE.out
  replace HRS := Aside0.mk (show RS 67 wb [(gp, .cells #[.int .i64 tos, .int .i64 id, .bool df, .bool mf, .int .i64 off2, .int .i64 0, .int .i64 0, .bool false, .int .u64 0, .int .u64 0, .bool false, .int .u64 0, .int .u64 0, .string (s.extract 20 hd), .string (s.extract hd wh)] 26 (0, 0)), (w.heap.size, .cells #[.int .i64 0, .int .i64 0, .bool false, .bool false, .int .i64 0, .int .i64 0, .int .i64 0, .bool false, .int .u64 0, .int .u64 0, .bool false, .int .u64 0, .int .u64 0, .string ⟨#[]⟩, .string ⟨#[]⟩] 26 (0, 0))] g bb _ _ from (RS.set' (cs2 := #[.int .i64 tos, .int .i64 id, .bool df, .bool mf, .int .i64 off2, .int .i64 0, .int .i64 0, .bool false, .int .u64 0, .int .u64 0, .bool false, .int .u64 0, .int .u64 0, .string (s.extract 20 hd), .string (s.extract hd wh)]) (RS.set' (cs2 := #[.int .i64 tos, .int .i64 id, .bool df, .bool false, .int .i64 off2, .int .i64 0, .int .i64 0, .bool false, .int .u64 0, .int .u64 0, .bool false, .int .u64 0, .int .u64 0, .string (s.extract 20 hd), .string (s.extract hd wh)]) (RS.set' (cs2 := #[.int .i64 tos, .int .i64 id, .bool false, .bool false, .int .i64 off2, .int .i64 0, .int .i64 0, .bool false, .int .u64 0, .int .u64 0, .bool false, .int .u64 0, .int .u64 0, .string (s.extract 20 hd), .string (s.extract hd wh)]) HRS.out HGE HNE 4 (.int .i64 off2) rfl) HGE HNE 2 (.bool df) rfl) HGE HNE 3 (.bool mf) rfl))
  clear HGE HNE
  refine (ip4_Take.rs HRS.out Httl.out (by decide) (by (try rw [List.length_drop]); rw [HN.out]; decide)).mono ?_
  rintro e w13 ⟨rfl, hrs⟩
  replace HRS := Aside0.mk (show RS 67 wb _ g bb (L.drop 9) w13 by have := hrs; rw [show (1 : Int).toNat = 1 from rfl, List.drop_drop] at this; exact this)
  clear hrs
  go_wp2_with fail
  refine (ip4_Take.rs HRS.out Hproto.out (by decide) (by (try rw [List.length_drop]); rw [HN.out]; decide)).mono ?_
  rintro e w14 ⟨rfl, hrs⟩
  replace HRS := Aside0.mk (show RS 67 wb _ g bb (L.drop 10) w14 by have := hrs; rw [show (1 : Int).toNat = 1 from rfl, List.drop_drop] at this; exact this)
  clear hrs
  have ew4 : IntKind.i64.wrap ttl = ttl := by simp only [i64_w]; unfold wrap64; omega
  have ew5 : IntKind.i64.wrap proto = proto := by simp only [i64_w]; unfold wrap64; omega
  have y5 := HRS.out.cell (j := 5) (List.mem_cons_self ..) rfl
  have z5 := HRS.out.free 5 (List.mem_cons_self ..)
  have y6 := HRS.out.cell (j := 6) (List.mem_cons_self ..) rfl
  have z6 := HRS.out.free 6 (List.mem_cons_self ..)
  go_wp2_with fail
  clear y5 z5 y6 z6
  have HGE := AGE.out; have HNE := ANE.out
  replace HRS := Aside0.mk (show RS 67 wb [(gp, .cells #[.int .i64 tos, .int .i64 id, .bool df, .bool mf, .int .i64 off2, .int .i64 ttl, .int .i64 proto, .bool false, .int .u64 0, .int .u64 0, .bool false, .int .u64 0, .int .u64 0, .string (s.extract 20 hd), .string (s.extract hd wh)] 26 (0, 0)), (w.heap.size, .cells #[.int .i64 0, .int .i64 0, .bool false, .bool false, .int .i64 0, .int .i64 0, .int .i64 0, .bool false, .int .u64 0, .int .u64 0, .bool false, .int .u64 0, .int .u64 0, .string ⟨#[]⟩, .string ⟨#[]⟩] 26 (0, 0))] g bb _ _ from (RS.set' (cs2 := #[.int .i64 tos, .int .i64 id, .bool df, .bool mf, .int .i64 off2, .int .i64 ttl, .int .i64 proto, .bool false, .int .u64 0, .int .u64 0, .bool false, .int .u64 0, .int .u64 0, .string (s.extract 20 hd), .string (s.extract hd wh)]) (RS.set' (cs2 := #[.int .i64 tos, .int .i64 id, .bool df, .bool mf, .int .i64 off2, .int .i64 ttl, .int .i64 0, .bool false, .int .u64 0, .int .u64 0, .bool false, .int .u64 0, .int .u64 0, .string (s.extract 20 hd), .string (s.extract hd wh)]) HRS.out HGE HNE 5 (.int .i64 ttl) rfl) HGE HNE 6 (.int .i64 proto) rfl))
  clear HGE HNE
  refine (ip4_Take.rs HRS.out Hn10.out (by decide) (by (try rw [List.length_drop]); rw [HN.out]; decide)).mono ?_
  rintro e w15 ⟨rfl, hrs⟩
  replace HRS := Aside0.mk (show RS 67 wb _ g bb (L.drop 12) w15 by have := hrs; rw [show (2 : Int).toNat = 2 from rfl, List.drop_drop] at this; exact this)
  clear hrs
  go_wp2_with fail
  refine (ip4_Take.rs HRS.out Hsrc.out (by decide) (by (try rw [List.length_drop]); rw [HN.out]; decide)).mono ?_
  rintro e w16 ⟨rfl, hrs⟩
  replace HRS := Aside0.mk (show RS 67 wb _ g bb (L.drop 16) w16 by have := hrs; rw [show (4 : Int).toNat = 4 from rfl, List.drop_drop] at this; exact this)
  clear hrs
  go_wp2_with fail
  refine (ip4_Take.rs HRS.out Hdst.out (by decide) (by (try rw [List.length_drop]); rw [HN.out]; decide)).mono ?_
  rintro e w17 ⟨rfl, hrs⟩
  replace HRS := Aside0.mk (show RS 67 wb _ g bb (L.drop 20) w17 by have := hrs; rw [show (4 : Int).toNat = 4 from rfl, List.drop_drop] at this; exact this)
  clear hrs
  have y7 := HRS.out.cell (j := 7) (List.mem_cons_self ..) rfl
  have z7 := HRS.out.free 7 (List.mem_cons_self ..)
  have y8 := HRS.out.cell (j := 8) (List.mem_cons_self ..) rfl
  have z8 := HRS.out.free 8 (List.mem_cons_self ..)
  have y9 := HRS.out.cell (j := 9) (List.mem_cons_self ..) rfl
  have z9 := HRS.out.free 9 (List.mem_cons_self ..)
  have y10 := HRS.out.cell (j := 10) (List.mem_cons_self ..) rfl
  have z10 := HRS.out.free 10 (List.mem_cons_self ..)
  have y11 := HRS.out.cell (j := 11) (List.mem_cons_self ..) rfl
  have z11 := HRS.out.free 11 (List.mem_cons_self ..)
  have y12 := HRS.out.cell (j := 12) (List.mem_cons_self ..) rfl
  have z12 := HRS.out.free 12 (List.mem_cons_self ..)
  have y13 := HRS.out.cell (j := 13) (List.mem_cons_self ..) rfl
  go_wp2_with fail
  clear y13
  clear y7 z7 y8 z8 y9 z9 y10 z10 y11 z11 y12 z12
  have HGE := AGE.out; have HNE := ANE.out
  replace HRS := Aside0.mk (show RS 67 wb [(gp, .cells #[.int .i64 tos, .int .i64 id, .bool df, .bool mf, .int .i64 off2, .int .i64 ttl, .int .i64 proto, .bool false, .int .u64 0, .int .u64 src, .bool false, .int .u64 0, .int .u64 dst, .string (s.extract 20 hd), .string (s.extract hd wh)] 26 (0, 0)), (w.heap.size, .cells #[.int .i64 0, .int .i64 0, .bool false, .bool false, .int .i64 0, .int .i64 0, .int .i64 0, .bool false, .int .u64 0, .int .u64 0, .bool false, .int .u64 0, .int .u64 0, .string ⟨#[]⟩, .string ⟨#[]⟩] 26 (0, 0))] g bb _ _ from (RS.set' (cs2 := #[.int .i64 tos, .int .i64 id, .bool df, .bool mf, .int .i64 off2, .int .i64 ttl, .int .i64 proto, .bool false, .int .u64 0, .int .u64 src, .bool false, .int .u64 0, .int .u64 dst, .string (s.extract 20 hd), .string (s.extract hd wh)]) (RS.set' (cs2 := #[.int .i64 tos, .int .i64 id, .bool df, .bool mf, .int .i64 off2, .int .i64 ttl, .int .i64 proto, .bool false, .int .u64 0, .int .u64 src, .bool false, .int .u64 0, .int .u64 0, .string (s.extract 20 hd), .string (s.extract hd wh)]) (RS.set' (cs2 := #[.int .i64 tos, .int .i64 id, .bool df, .bool mf, .int .i64 off2, .int .i64 ttl, .int .i64 proto, .bool false, .int .u64 0, .int .u64 src, .bool false, .int .u64 0, .int .u64 0, .string (s.extract 20 hd), .string (s.extract hd wh)]) (RS.set' (cs2 := #[.int .i64 tos, .int .i64 id, .bool df, .bool mf, .int .i64 off2, .int .i64 ttl, .int .i64 proto, .bool false, .int .u64 0, .int .u64 src, .bool false, .int .u64 0, .int .u64 0, .string (s.extract 20 hd), .string (s.extract hd wh)]) (RS.set' (cs2 := #[.int .i64 tos, .int .i64 id, .bool df, .bool mf, .int .i64 off2, .int .i64 ttl, .int .i64 proto, .bool false, .int .u64 0, .int .u64 0, .bool false, .int .u64 0, .int .u64 0, .string (s.extract 20 hd), .string (s.extract hd wh)]) (RS.set' (cs2 := #[.int .i64 tos, .int .i64 id, .bool df, .bool mf, .int .i64 off2, .int .i64 ttl, .int .i64 proto, .bool false, .int .u64 0, .int .u64 0, .bool false, .int .u64 0, .int .u64 0, .string (s.extract 20 hd), .string (s.extract hd wh)]) HRS.out HGE HNE 7 (.bool false) rfl) HGE HNE 8 (.int .u64 0) rfl) HGE HNE 9 (.int .u64 src) rfl) HGE HNE 10 (.bool false) rfl) HGE HNE 11 (.int .u64 0) rfl) HGE HNE 12 (.int .u64 dst) rfl))
  clear HGE HNE
  refine (ip4_Options.calls _ _ _ _ HO.out).mono ?_
  rintro e w20 ⟨vo, rfl, hro, hb⟩
  replace HRS := Aside0.mk (HRS.out.more hb)
  clear hb hro
  have HRES := Aside0.mk (HRS.out.keep _ (List.mem_cons_of_mem _ (List.mem_cons_self ..))).1
  obtain ⟨q0, q1, q2, q3, q4, q5, q6, q7, q8, q9, q10, q11, q12, q13, q14⟩ := MBlk.c15 (HRS.out.keep _ (List.mem_cons_self ..)).1
  obtain ⟨f0, f1, f2, f3, f4, f5, f6, f7, f8, f9, f10, f11, f12, f13, f14⟩ := MBlk.f15 HRES.out
  obtain ⟨s0, s1, s2, s3, s4, s5, s6, s7, s8, s9, s10, s11, s12, s13, s14⟩ := MBlk.c15 HRES.out
  have HBE := Aside0.mk (below_step HBW.out HRS.out.below)
  have HG0 := Aside0.mk (Nat.le_refl w.heap.size)
  have t1 : (oe != 0) = false := by simpa using hoe
  go_wp2_with fail
  refine bodyPost_ret (results_ct rfl _ _ _ 26 #[.int .i64 tos, .int .i64 id, .bool df, .bool mf, .int .i64 off2, .int .i64 ttl, .int .i64 proto, .bool false, .int .u64 0, .int .u64 src, .bool false, .int .u64 0, .int .u64 dst, .string (s.extract 20 hd), .string (s.extract hd wh)] (0, 0) _ rfl (by have h_ := MBlk.put15 HRES.out (.int .i64 tos) (.int .i64 id) (.bool df) (.bool mf) (.int .i64 off2) (.int .i64 ttl) (.int .i64 proto) (.bool false) (.int .u64 0) (.int .u64 src) (.bool false) (.int .u64 0) (.int .u64 dst) (.string (s.extract 20 hd)) (.string (s.extract hd wh)); exact h_) Try.underlying26 rfl (by kernel_rfl)) rfl ?_
  exact ⟨rfl, by repeat (first | (with_reducible first | exact HBE.out | apply below_alloc | apply pw_below_drewN | apply below_drew1 | refine below_set ?_ HG0.out) | exact HBE.out)⟩
set_option maxHeartbeats 4000000 in
set_option maxRecDepth 100000 in
theorem ip4_Take.opts (k : Nat) (s : ByteArray) (hd wh : Nat) (n0 tos n2 id off ttl proto n10 src dst off2 : Int) (df mf : Bool) (ol : List S44) (oe : Int) (w : World) (hh : ip4_heads.f k s = some ((hd : Int), (wh : Int), 0)) (h20 : 20 ≤ hd) (hhw : hd ≤ wh) (hws : wh ≤ s.size)
  (hn0 : ip4_Take.num k (bytesOf (s.extract 0 20)) 1 = some n0)
  (htos : ip4_Take.num k ((bytesOf (s.extract 0 20)).drop 1) 1 = some tos)
  (hn2 : ip4_Take.num k ((bytesOf (s.extract 0 20)).drop 2) 2 = some n2)
  (hid : ip4_Take.num k ((bytesOf (s.extract 0 20)).drop 4) 2 = some id)
  (hoff : ip4_Take.num k ((bytesOf (s.extract 0 20)).drop 6) 2 = some off)
  (httl : ip4_Take.num k ((bytesOf (s.extract 0 20)).drop 8) 1 = some ttl)
  (hproto : ip4_Take.num k ((bytesOf (s.extract 0 20)).drop 9) 1 = some proto)
  (hn10 : ip4_Take.num k ((bytesOf (s.extract 0 20)).drop 10) 2 = some n10)
  (hsrc : ip4_Take.num k ((bytesOf (s.extract 0 20)).drop 12) 4 = some src)
  (hdst : ip4_Take.num k ((bytesOf (s.extract 0 20)).drop 16) 4 = some dst)
  (ho : ip4_Options.f (s.extract 20 hd) = some (ol, oe)) (r1 : 0 ≤ tos ∧ tos ≤ 255) (r2 : 0 ≤ id ∧ id ≤ 65535) (r3 : 0 ≤ off ∧ off ≤ 65535) (r4 : 0 ≤ ttl ∧ ttl ≤ 255) (r5 : 0 ≤ proto ∧ proto ≤ 255)
  (e1 : Go.bits .and .i64 off 8191 = off2) (e2 : (Go.bits .and .i64 off 16384 != 0) = df) (e3 : (Go.bits .and .i64 off 8192 != 0) = mf) (hoe : ¬ oe = 0) :
  Calls Try.prog 11 #[.string s] w fun e w' => e = .returned (.tuple #[.agg #[.int .i64 0, .int .i64 0, .bool false, .bool false, .int .i64 0, .int .i64 0, .int .i64 0, .bool false, .int .u64 0, .int .u64 0, .bool false, .int .u64 0, .int .u64 0, .string ⟨#[]⟩, .string ⟨#[]⟩], .int .i64 oe]) ∧ Below w.heap.size w w' := by
 obtain ⟨L, hL⟩ : ∃ L, bytesOf (s.extract 0 20) = L := ⟨_, rfl⟩
 have hlen : L.length = 20 := by rw [← hL, bytesOf_length]; simp; omega
 rw [hL] at hn0 htos hn2 hid hoff httl hproto hn10 hsrc hdst
 have HLE := Aside0.mk hL; have HN := Aside0.mk hlen
 have Hn0 := Aside0.mk (ip4_Take.num_get hn0); have Htos := Aside0.mk (ip4_Take.num_get htos); have Hn2 := Aside0.mk (ip4_Take.num_get hn2); have Hid := Aside0.mk (ip4_Take.num_get hid); have Hoff := Aside0.mk (ip4_Take.num_get hoff); have Httl := Aside0.mk (ip4_Take.num_get httl); have Hproto := Aside0.mk (ip4_Take.num_get hproto); have Hn10 := Aside0.mk (ip4_Take.num_get hn10); have Hsrc := Aside0.mk (ip4_Take.num_get hsrc); have Hdst := Aside0.mk (ip4_Take.num_get hdst)
 have HH := Aside0.mk hh; have HO := Aside0.mk ho
 clear hh ho hL hlen hn0 htos hn2 hid hoff httl hproto hn10 hsrc hdst
 obtain ⟨p1, q1⟩ := r1; obtain ⟨p2, q2⟩ := r2; obtain ⟨p3, q3⟩ := r3; obtain ⟨p4, q4⟩ := r4; obtain ⟨p5, q5⟩ := r5
 obtain ⟨wa, hwa⟩ : ∃ wa, w.alloc (.cells #[.int .i64 0, .int .i64 0, .bool false, .bool false, .int .i64 0, .int .i64 0, .int .i64 0, .bool false, .int .u64 0, .int .u64 0, .bool false, .int .u64 0, .int .u64 0, .string ⟨#[]⟩, .string ⟨#[]⟩] 26) = wa := ⟨_, rfl⟩
 have HBA := Aside0.mk (show Below w.heap.size w wa by rw [← hwa]; exact below_alloc (Below.refl _ _) _)
 have HX := Aside0.mk (show wa.heap[w.heap.size]? = some (.cells #[.int .i64 0, .int .i64 0, .bool false, .bool false, .int .i64 0, .int .i64 0, .int .i64 0, .bool false, .int .u64 0, .int .u64 0, .bool false, .int .u64 0, .int .u64 0, .string ⟨#[]⟩, .string ⟨#[]⟩] 26 (0, 0)) by rw [← hwa]; exact heap_alloc_new _ _)
 have hu26 := Try.underlying26
 have hu24 := Try.underlying24
 have kb := fun s W => print_bytes (P := Try.prog) 9 45 5 Try.underlying9 Try.underlying45 Try.underlying5 s W
 have hi20 : ((20 : Int) ≤ (s.size : Int)) = True := eq_true (by omega)
 have e20 : (s.extract 0 20).size = 20 := by simp; omega
 have m20 : min 20 s.size = 20 := by omega
 have HHW := Aside0.mk hhw; have HWZ := Aside0.mk hws; have H20 := Aside0.mk h20
 clear hhw hws h20
 go_enter Try.func11, Try.ntmps11
 go_wp2_with fail
 clear hwa
 refine (ip4_heads.calls k s _ _ _ _ HH.out).mono ?_
 rintro e wb ⟨rfl, hb⟩
 have HBW := Aside0.mk (below_step HBA.out hb)
 have HWS := Aside0.mk (show w.heap.size < wb.heap.size from Nat.lt_of_lt_of_le (Array.getElem?_eq_some_iff.1 HX.out).1 hb.size)
 replace HX := Aside0.mk (MStr.block_below HX.out hb)
 clear hb
 go_wp2_with fail
 have hC := MStr.C_bytes wb 5 (s.extract 0 20) (by rw [e20]; decide)
 rw [HLE.out, e20] at hC
 have hcall := octet_New.calls (some ⟨wb.heap.size, 0, none⟩) (grownCap wb 20 0 5) L (Lib.bytesWorld wb 5 (s.extract 0 20)) (by rw [HN.out]; exact hC) (by rw [HN.out]; exact grownCap_ge _ _ _ _) (by rw [HN.out]; decide)
 rw [HN.out] at hcall
 clear hC kb
 refine hcall.mono ?_
 rintro e w2 ⟨g, bb, rfl, hrd, hg, hbb, hb⟩
 have hbw : Below wb.heap.size wb (Lib.bytesWorld wb 5 (s.extract 0 20)) := bytes_below (Below.refl _ _) (Nat.le_refl _) _ _
 have hsz : (Lib.bytesWorld wb 5 (s.extract 0 20)).heap.size = wb.heap.size + 1 := Lib.bytesWorld_size _ _ _
 have HRS := Aside0.mk (show RS 67 wb [(w.heap.size, .cells #[.int .i64 0, .int .i64 0, .bool false, .bool false, .int .i64 0, .int .i64 0, .int .i64 0, .bool false, .int .u64 0, .int .u64 0, .bool false, .int .u64 0, .int .u64 0, .string ⟨#[]⟩, .string ⟨#[]⟩] 26 (0, 0))] g bb L w2 from ⟨hrd, fun x hx => by
  obtain rfl := List.mem_singleton.1 hx
  exact ⟨MStr.block_below HX.out (below_step hbw hb), by have := HWS.out; simp only; omega, by have := HWS.out; simp only; omega⟩, below_step hbw hb, by omega⟩)
 clear hcall hrd hg hbb hb hbw hsz HX e20 m20
 go_wp2_with fail
 refine (ip4_Take.rs HRS.out Hn0.out (by decide) (by (try rw [List.length_drop]); rw [HN.out]; decide)).mono ?_
 rintro e w3 ⟨rfl, hrs⟩
 replace HRS := Aside0.mk (show RS 67 wb _ g bb (L.drop 1) w3 by have := hrs; rw [show (1 : Int).toNat = 1 from rfl] at this; exact this)
 clear hrs
 have hhw := HHW.out; have hws := HWZ.out; have h20 := H20.out
 have g1 : ((20 : Int) ≤ (hd : Int)) = True := eq_true (by omega)
 have g2 : ((hd : Int) ≤ (s.size : Int)) = True := eq_true (by omega)
 have g3 : ((hd : Int) ≤ (wh : Int)) = True := eq_true (by omega)
 have g4 : ((wh : Int) ≤ (s.size : Int)) = True := eq_true (by omega)
 have g5 : ((0 : Int) ≤ (hd : Int)) = True := eq_true (by omega)
 have g6 : ((0 : Int) ≤ (wh : Int)) = True := eq_true (by omega)
 have ew : IntKind.i64.wrap tos = tos := by simp only [i64_w]; unfold wrap64; omega
 clear hhw hws h20
 have HW3 := Aside0.mk (show wb.heap.size ≤ w3.heap.size from HRS.out.below.size)
 go_upto_region 6 with (fail)
 go_cut [8] (fun v8 wc => ∃ gp : Nat, v8 = .pointer (some ⟨gp, 0, none⟩) ∧ Aside0 (RS 67 wb [(gp, .cells #[.int .i64 tos, .int .i64 0, .bool false, .bool false, .int .i64 0, .int .i64 0, .int .i64 0, .bool false, .int .u64 0, .int .u64 0, .bool false, .int .u64 0, .int .u64 0, .string (s.extract 20 hd), .string (s.extract hd wh)] 26 (0, 0)), (w.heap.size, .cells #[.int .i64 0, .int .i64 0, .bool false, .bool false, .int .i64 0, .int .i64 0, .int .i64 0, .bool false, .int .u64 0, .int .u64 0, .bool false, .int .u64 0, .int .u64 0, .string ⟨#[]⟩, .string ⟨#[]⟩] 26 (0, 0))] g bb (L.drop 2) wc) ∧ Aside0 (wb.heap.size ≤ gp))
 case first =>
   go_region_held3 (fun w' => True) (trivial) (first | (go_at_call 30; refine (ip4_Take.rs (HRS.out.more (below_drew1 (Below.refl _ _))) Htos.out (by decide) (by rw [List.length_drop, HN.out]; decide)).mono ?_; rintro e w5 ⟨rfl, hrs⟩; have HW5 := Aside0.mk hrs.below.size; have HRT := Aside0.mk (show RS 67 wb _ g bb (L.drop 2) w5 by have := hrs; rw [show (1 : Int).toNat = 1 from rfl, List.drop_drop] at this; exact this); clear hrs HRS) | (go_at_call 30; refine (ip4_Take.rs ((HRS.out.alloc (.cells #[.int .i64 0, .int .i64 0, .bool false, .bool false, .int .i64 0, .int .i64 0, .int .i64 0, .bool false, .int .u64 0, .int .u64 0, .bool false, .int .u64 0, .int .u64 0, .string ⟨#[]⟩, .string ⟨#[]⟩] 26)).more (below_drew1 (Below.refl _ _))) Htos.out (by decide) (by rw [List.length_drop, HN.out]; decide)).mono ?_; rintro e w5 ⟨rfl, hrs⟩; obtain ⟨y0, y1, y2, y3, y4, y5, y6, y7, y8, y9, y10, y11, y12, y13, y14⟩ := MBlk.c15 (hrs.keep _ (List.mem_cons_self ..)).1; obtain ⟨z0, z1, z2, z3, z4, z5, z6, z7, z8, z9, z10, z11, z12, z13, z14⟩ := MBlk.f15 (hrs.keep _ (List.mem_cons_self ..)).1; have HW5 := Aside0.mk hrs.below.size; have HRT := Aside0.mk (show RS 67 wb _ g bb (L.drop 2) w5 by have := hrs; rw [show (1 : Int).toNat = 1 from rfl, List.drop_drop] at this; exact this); clear hrs HRS))
   · go_wp2
     go_meet
     case rel => exact ⟨_, rfl, ⟨HRT.out.alloc _⟩, ⟨HRT.out.below.size⟩⟩
   · go_wp2
     go_meet
     case rel =>
      have HGE := HW3.out
      have HNE : ∀ x ∈ [(w.heap.size, Obj.cells #[.int .i64 0, .int .i64 0, .bool false, .bool false, .int .i64 0, .int .i64 0, .int .i64 0, .bool false, .int .u64 0, .int .u64 0, .bool false, .int .u64 0, .int .u64 0, .string ⟨#[]⟩, .string ⟨#[]⟩] 26 (0, 0))], x.1 ≠ w3.heap.size := by
       intro x hx; obtain rfl := List.mem_singleton.1 hx; have := HWS.out; simp only; omega
      exact ⟨_, rfl, ⟨RS.all15 HRT.out HGE HNE (.int .i64 tos) (.int .i64 0) (.bool false) (.bool false) (.int .i64 0) (.int .i64 0) (.int .i64 0) (.bool false) (.int .u64 0) (.int .u64 0) (.bool false) (.int .u64 0) (.int .u64 0) (.string (s.extract 20 hd)) (.string (s.extract hd wh))⟩, ⟨by have := HW3.out; omega⟩⟩
 case rest =>
  clear HRS
  obtain ⟨gp, rfl, HRS, HGP⟩ := hcut
  have HGE := HGP.out
  have HNE : ∀ x ∈ [(w.heap.size, Obj.cells #[.int .i64 0, .int .i64 0, .bool false, .bool false, .int .i64 0, .int .i64 0, .int .i64 0, .bool false, .int .u64 0, .int .u64 0, .bool false, .int .u64 0, .int .u64 0, .string ⟨#[]⟩, .string ⟨#[]⟩] 26 (0, 0))], x.1 ≠ gp := by
   intro x hx; obtain rfl := List.mem_singleton.1 hx; have := HWS.out; simp only; omega
  have AGE := Aside0.mk HGE; have ANE := Aside0.mk HNE
  clear HGE HNE HGP ew g1 g2 g3 g4 g5 g6 hi20
  go_wp2_with fail
  refine (ip4_Take.rs HRS.out Hn2.out (by decide) (by (try rw [List.length_drop]); rw [HN.out]; decide)).mono ?_
  rintro e w4 ⟨rfl, hrs⟩
  replace HRS := Aside0.mk (show RS 67 wb _ g bb (L.drop 4) w4 by have := hrs; rw [show (2 : Int).toNat = 2 from rfl, List.drop_drop] at this; exact this)
  clear hrs
  go_wp2_with fail
  refine (ip4_Take.rs HRS.out Hid.out (by decide) (by (try rw [List.length_drop]); rw [HN.out]; decide)).mono ?_
  rintro e w11 ⟨rfl, hrs⟩
  replace HRS := Aside0.mk (show RS 67 wb _ g bb (L.drop 6) w11 by have := hrs; rw [show (2 : Int).toNat = 2 from rfl, List.drop_drop] at this; exact this)
  clear hrs
  have ew2 : IntKind.i64.wrap id = id := by simp only [i64_w]; unfold wrap64; omega
  have y1 := HRS.out.cell (j := 1) (List.mem_cons_self ..) rfl
  have z1 := HRS.out.free 1 (List.mem_cons_self ..)
  go_wp2_with fail
  clear y1 z1
  have HGE := AGE.out; have HNE := ANE.out
  replace HRS := Aside0.mk (show RS 67 wb [(gp, .cells #[.int .i64 tos, .int .i64 id, .bool false, .bool false, .int .i64 0, .int .i64 0, .int .i64 0, .bool false, .int .u64 0, .int .u64 0, .bool false, .int .u64 0, .int .u64 0, .string (s.extract 20 hd), .string (s.extract hd wh)] 26 (0, 0)), (w.heap.size, .cells #[.int .i64 0, .int .i64 0, .bool false, .bool false, .int .i64 0, .int .i64 0, .int .i64 0, .bool false, .int .u64 0, .int .u64 0, .bool false, .int .u64 0, .int .u64 0, .string ⟨#[]⟩, .string ⟨#[]⟩] 26 (0, 0))] g bb _ _ from (RS.set' (cs2 := #[.int .i64 tos, .int .i64 id, .bool false, .bool false, .int .i64 0, .int .i64 0, .int .i64 0, .bool false, .int .u64 0, .int .u64 0, .bool false, .int .u64 0, .int .u64 0, .string (s.extract 20 hd), .string (s.extract hd wh)]) HRS.out HGE HNE 1 (.int .i64 id) rfl))
  clear HGE HNE
  refine (ip4_Take.rs HRS.out Hoff.out (by decide) (by (try rw [List.length_drop]); rw [HN.out]; decide)).mono ?_
  rintro e w12 ⟨rfl, hrs⟩
  replace HRS := Aside0.mk (show RS 67 wb _ g bb (L.drop 8) w12 by have := hrs; rw [show (2 : Int).toNat = 2 from rfl, List.drop_drop] at this; exact this)
  clear hrs
  have ew3 : IntKind.i64.wrap off = off := by simp only [i64_w]; unfold wrap64; omega
  have y4 := HRS.out.cell (j := 4) (List.mem_cons_self ..) rfl
  have z4 := HRS.out.free 4 (List.mem_cons_self ..)
  have y2 := HRS.out.cell (j := 2) (List.mem_cons_self ..) rfl
  have z2 := HRS.out.free 2 (List.mem_cons_self ..)
  have y3 := HRS.out.cell (j := 3) (List.mem_cons_self ..) rfl
  have z3 := HRS.out.free 3 (List.mem_cons_self ..)
  go_wp2_with fail
  clear y4 z4 y2 z2 y3 z3
  have HGE := AGE.out; have HNE := ANE.out
  replace HRS := Aside0.mk (show RS 67 wb [(gp, .cells #[.int .i64 tos, .int .i64 id, .bool df, .bool mf, .int .i64 off2, .int .i64 0, .int .i64 0, .bool false, .int .u64 0, .int .u64 0, .bool false, .int .u64 0, .int .u64 0, .string (s.extract 20 hd), .string (s.extract hd wh)] 26 (0, 0)), (w.heap.size, .cells #[.int .i64 0, .int .i64 0, .bool false, .bool false, .int .i64 0, .int .i64 0, .int .i64 0, .bool false, .int .u64 0, .int .u64 0, .bool false, .int .u64 0, .int .u64 0, .string ⟨#[]⟩, .string ⟨#[]⟩] 26 (0, 0))] g bb _ _ from (RS.set' (cs2 := #[.int .i64 tos, .int .i64 id, .bool df, .bool mf, .int .i64 off2, .int .i64 0, .int .i64 0, .bool false, .int .u64 0, .int .u64 0, .bool false, .int .u64 0, .int .u64 0, .string (s.extract 20 hd), .string (s.extract hd wh)]) (RS.set' (cs2 := #[.int .i64 tos, .int .i64 id, .bool df, .bool false, .int .i64 off2, .int .i64 0, .int .i64 0, .bool false, .int .u64 0, .int .u64 0, .bool false, .int .u64 0, .int .u64 0, .string (s.extract 20 hd), .string (s.extract hd wh)]) (RS.set' (cs2 := #[.int .i64 tos, .int .i64 id, .bool false, .bool false, .int .i64 off2, .int .i64 0, .int .i64 0, .bool false, .int .u64 0, .int .u64 0, .bool false, .int .u64 0, .int .u64 0, .string (s.extract 20 hd), .string (s.extract hd wh)]) HRS.out HGE HNE 4 (.int .i64 off2) rfl) HGE HNE 2 (.bool df) rfl) HGE HNE 3 (.bool mf) rfl))
  clear HGE HNE
  refine (ip4_Take.rs HRS.out Httl.out (by decide) (by (try rw [List.length_drop]); rw [HN.out]; decide)).mono ?_
  rintro e w13 ⟨rfl, hrs⟩
  replace HRS := Aside0.mk (show RS 67 wb _ g bb (L.drop 9) w13 by have := hrs; rw [show (1 : Int).toNat = 1 from rfl, List.drop_drop] at this; exact this)
  clear hrs
  go_wp2_with fail
  refine (ip4_Take.rs HRS.out Hproto.out (by decide) (by (try rw [List.length_drop]); rw [HN.out]; decide)).mono ?_
  rintro e w14 ⟨rfl, hrs⟩
  replace HRS := Aside0.mk (show RS 67 wb _ g bb (L.drop 10) w14 by have := hrs; rw [show (1 : Int).toNat = 1 from rfl, List.drop_drop] at this; exact this)
  clear hrs
  have ew4 : IntKind.i64.wrap ttl = ttl := by simp only [i64_w]; unfold wrap64; omega
  have ew5 : IntKind.i64.wrap proto = proto := by simp only [i64_w]; unfold wrap64; omega
  have y5 := HRS.out.cell (j := 5) (List.mem_cons_self ..) rfl
  have z5 := HRS.out.free 5 (List.mem_cons_self ..)
  have y6 := HRS.out.cell (j := 6) (List.mem_cons_self ..) rfl
  have z6 := HRS.out.free 6 (List.mem_cons_self ..)
  go_wp2_with fail
  clear y5 z5 y6 z6
  have HGE := AGE.out; have HNE := ANE.out
  replace HRS := Aside0.mk (show RS 67 wb [(gp, .cells #[.int .i64 tos, .int .i64 id, .bool df, .bool mf, .int .i64 off2, .int .i64 ttl, .int .i64 proto, .bool false, .int .u64 0, .int .u64 0, .bool false, .int .u64 0, .int .u64 0, .string (s.extract 20 hd), .string (s.extract hd wh)] 26 (0, 0)), (w.heap.size, .cells #[.int .i64 0, .int .i64 0, .bool false, .bool false, .int .i64 0, .int .i64 0, .int .i64 0, .bool false, .int .u64 0, .int .u64 0, .bool false, .int .u64 0, .int .u64 0, .string ⟨#[]⟩, .string ⟨#[]⟩] 26 (0, 0))] g bb _ _ from (RS.set' (cs2 := #[.int .i64 tos, .int .i64 id, .bool df, .bool mf, .int .i64 off2, .int .i64 ttl, .int .i64 proto, .bool false, .int .u64 0, .int .u64 0, .bool false, .int .u64 0, .int .u64 0, .string (s.extract 20 hd), .string (s.extract hd wh)]) (RS.set' (cs2 := #[.int .i64 tos, .int .i64 id, .bool df, .bool mf, .int .i64 off2, .int .i64 ttl, .int .i64 0, .bool false, .int .u64 0, .int .u64 0, .bool false, .int .u64 0, .int .u64 0, .string (s.extract 20 hd), .string (s.extract hd wh)]) HRS.out HGE HNE 5 (.int .i64 ttl) rfl) HGE HNE 6 (.int .i64 proto) rfl))
  clear HGE HNE
  refine (ip4_Take.rs HRS.out Hn10.out (by decide) (by (try rw [List.length_drop]); rw [HN.out]; decide)).mono ?_
  rintro e w15 ⟨rfl, hrs⟩
  replace HRS := Aside0.mk (show RS 67 wb _ g bb (L.drop 12) w15 by have := hrs; rw [show (2 : Int).toNat = 2 from rfl, List.drop_drop] at this; exact this)
  clear hrs
  go_wp2_with fail
  refine (ip4_Take.rs HRS.out Hsrc.out (by decide) (by (try rw [List.length_drop]); rw [HN.out]; decide)).mono ?_
  rintro e w16 ⟨rfl, hrs⟩
  replace HRS := Aside0.mk (show RS 67 wb _ g bb (L.drop 16) w16 by have := hrs; rw [show (4 : Int).toNat = 4 from rfl, List.drop_drop] at this; exact this)
  clear hrs
  go_wp2_with fail
  refine (ip4_Take.rs HRS.out Hdst.out (by decide) (by (try rw [List.length_drop]); rw [HN.out]; decide)).mono ?_
  rintro e w17 ⟨rfl, hrs⟩
  replace HRS := Aside0.mk (show RS 67 wb _ g bb (L.drop 20) w17 by have := hrs; rw [show (4 : Int).toNat = 4 from rfl, List.drop_drop] at this; exact this)
  clear hrs
  have y7 := HRS.out.cell (j := 7) (List.mem_cons_self ..) rfl
  have z7 := HRS.out.free 7 (List.mem_cons_self ..)
  have y8 := HRS.out.cell (j := 8) (List.mem_cons_self ..) rfl
  have z8 := HRS.out.free 8 (List.mem_cons_self ..)
  have y9 := HRS.out.cell (j := 9) (List.mem_cons_self ..) rfl
  have z9 := HRS.out.free 9 (List.mem_cons_self ..)
  have y10 := HRS.out.cell (j := 10) (List.mem_cons_self ..) rfl
  have z10 := HRS.out.free 10 (List.mem_cons_self ..)
  have y11 := HRS.out.cell (j := 11) (List.mem_cons_self ..) rfl
  have z11 := HRS.out.free 11 (List.mem_cons_self ..)
  have y12 := HRS.out.cell (j := 12) (List.mem_cons_self ..) rfl
  have z12 := HRS.out.free 12 (List.mem_cons_self ..)
  have y13 := HRS.out.cell (j := 13) (List.mem_cons_self ..) rfl
  go_wp2_with fail
  clear y13
  clear y7 z7 y8 z8 y9 z9 y10 z10 y11 z11 y12 z12
  have HGE := AGE.out; have HNE := ANE.out
  replace HRS := Aside0.mk (show RS 67 wb [(gp, .cells #[.int .i64 tos, .int .i64 id, .bool df, .bool mf, .int .i64 off2, .int .i64 ttl, .int .i64 proto, .bool false, .int .u64 0, .int .u64 src, .bool false, .int .u64 0, .int .u64 dst, .string (s.extract 20 hd), .string (s.extract hd wh)] 26 (0, 0)), (w.heap.size, .cells #[.int .i64 0, .int .i64 0, .bool false, .bool false, .int .i64 0, .int .i64 0, .int .i64 0, .bool false, .int .u64 0, .int .u64 0, .bool false, .int .u64 0, .int .u64 0, .string ⟨#[]⟩, .string ⟨#[]⟩] 26 (0, 0))] g bb _ _ from (RS.set' (cs2 := #[.int .i64 tos, .int .i64 id, .bool df, .bool mf, .int .i64 off2, .int .i64 ttl, .int .i64 proto, .bool false, .int .u64 0, .int .u64 src, .bool false, .int .u64 0, .int .u64 dst, .string (s.extract 20 hd), .string (s.extract hd wh)]) (RS.set' (cs2 := #[.int .i64 tos, .int .i64 id, .bool df, .bool mf, .int .i64 off2, .int .i64 ttl, .int .i64 proto, .bool false, .int .u64 0, .int .u64 src, .bool false, .int .u64 0, .int .u64 0, .string (s.extract 20 hd), .string (s.extract hd wh)]) (RS.set' (cs2 := #[.int .i64 tos, .int .i64 id, .bool df, .bool mf, .int .i64 off2, .int .i64 ttl, .int .i64 proto, .bool false, .int .u64 0, .int .u64 src, .bool false, .int .u64 0, .int .u64 0, .string (s.extract 20 hd), .string (s.extract hd wh)]) (RS.set' (cs2 := #[.int .i64 tos, .int .i64 id, .bool df, .bool mf, .int .i64 off2, .int .i64 ttl, .int .i64 proto, .bool false, .int .u64 0, .int .u64 src, .bool false, .int .u64 0, .int .u64 0, .string (s.extract 20 hd), .string (s.extract hd wh)]) (RS.set' (cs2 := #[.int .i64 tos, .int .i64 id, .bool df, .bool mf, .int .i64 off2, .int .i64 ttl, .int .i64 proto, .bool false, .int .u64 0, .int .u64 0, .bool false, .int .u64 0, .int .u64 0, .string (s.extract 20 hd), .string (s.extract hd wh)]) (RS.set' (cs2 := #[.int .i64 tos, .int .i64 id, .bool df, .bool mf, .int .i64 off2, .int .i64 ttl, .int .i64 proto, .bool false, .int .u64 0, .int .u64 0, .bool false, .int .u64 0, .int .u64 0, .string (s.extract 20 hd), .string (s.extract hd wh)]) HRS.out HGE HNE 7 (.bool false) rfl) HGE HNE 8 (.int .u64 0) rfl) HGE HNE 9 (.int .u64 src) rfl) HGE HNE 10 (.bool false) rfl) HGE HNE 11 (.int .u64 0) rfl) HGE HNE 12 (.int .u64 dst) rfl))
  clear HGE HNE
  refine (ip4_Options.calls _ _ _ _ HO.out).mono ?_
  rintro e w20 ⟨vo, rfl, hro, hb⟩
  replace HRS := Aside0.mk (HRS.out.more hb)
  clear hb hro
  have HRES := Aside0.mk (HRS.out.keep _ (List.mem_cons_of_mem _ (List.mem_cons_self ..))).1
  obtain ⟨q0, q1, q2, q3, q4, q5, q6, q7, q8, q9, q10, q11, q12, q13, q14⟩ := MBlk.c15 (HRS.out.keep _ (List.mem_cons_self ..)).1
  obtain ⟨f0, f1, f2, f3, f4, f5, f6, f7, f8, f9, f10, f11, f12, f13, f14⟩ := MBlk.f15 HRES.out
  obtain ⟨s0, s1, s2, s3, s4, s5, s6, s7, s8, s9, s10, s11, s12, s13, s14⟩ := MBlk.c15 HRES.out
  have HBE := Aside0.mk (below_step HBW.out HRS.out.below)
  have HG0 := Aside0.mk (Nat.le_refl w.heap.size)
  have t1 : (oe != 0) = true := by simpa using hoe
  go_wp2_with fail
  refine bodyPost_ret (results_ct rfl _ _ _ 26 #[.int .i64 0, .int .i64 0, .bool false, .bool false, .int .i64 0, .int .i64 0, .int .i64 0, .bool false, .int .u64 0, .int .u64 0, .bool false, .int .u64 0, .int .u64 0, .string ⟨#[]⟩, .string ⟨#[]⟩] (0, 0) _ rfl (by have h_ := MBlk.put15 HRES.out (.int .i64 0) (.int .i64 0) (.bool false) (.bool false) (.int .i64 0) (.int .i64 0) (.int .i64 0) (.bool false) (.int .u64 0) (.int .u64 0) (.bool false) (.int .u64 0) (.int .u64 0) (.string ⟨#[]⟩) (.string ⟨#[]⟩); exact h_) Try.underlying26 rfl (by kernel_rfl)) rfl ?_
  exact ⟨rfl, by repeat (first | (with_reducible first | exact HBE.out | apply below_alloc | apply pw_below_drewN | apply below_drew1 | refine below_set ?_ HG0.out) | exact HBE.out)⟩
set_option maxHeartbeats 2000000 in
set_option maxRecDepth 100000 in
theorem ip4_Take.short (k : Nat) (s : ByteArray) (a b c : Int) (w : World) (hh : ip4_heads.f k s = some (a, b, c)) (hc : ¬ c = 0) :
  Calls Try.prog 11 #[.string s] w fun e w' => e = .returned (.tuple #[.agg #[.int .i64 0, .int .i64 0, .bool false, .bool false, .int .i64 0, .int .i64 0, .int .i64 0, .bool false, .int .u64 0, .int .u64 0, .bool false, .int .u64 0, .int .u64 0, .string ⟨#[]⟩, .string ⟨#[]⟩], .int .i64 c]) ∧ Below w.heap.size w w' := by
 have HH := Aside0.mk hh
 clear hh
 have t1 : (c != 0) = true := by simpa using hc
 obtain ⟨wa, hwa⟩ : ∃ wa, w.alloc (.cells #[.int .i64 0, .int .i64 0, .bool false, .bool false, .int .i64 0, .int .i64 0, .int .i64 0, .bool false, .int .u64 0, .int .u64 0, .bool false, .int .u64 0, .int .u64 0, .string ⟨#[]⟩, .string ⟨#[]⟩] 26) = wa := ⟨_, rfl⟩
 have HBA := Aside0.mk (show Below w.heap.size w wa by rw [← hwa]; exact below_alloc (Below.refl _ _) _)
 have HX := Aside0.mk (show wa.heap[w.heap.size]? = some (.cells #[.int .i64 0, .int .i64 0, .bool false, .bool false, .int .i64 0, .int .i64 0, .int .i64 0, .bool false, .int .u64 0, .int .u64 0, .bool false, .int .u64 0, .int .u64 0, .string ⟨#[]⟩, .string ⟨#[]⟩] 26 (0, 0)) by rw [← hwa]; exact heap_alloc_new _ _)
 have hu26 := Try.underlying26
 have hu24 := Try.underlying24
 go_enter Try.func11, Try.ntmps11
 go_wp2_with fail
 clear hwa
 refine (ip4_heads.calls k s _ _ _ _ HH.out).mono ?_
 rintro e wb ⟨rfl, hb⟩
 have HBE := Aside0.mk (below_step HBA.out hb)
 have HRES := Aside0.mk (MStr.block_below HX.out hb)
 have HG0 := Aside0.mk (Nat.le_refl w.heap.size)
 clear hb
 obtain ⟨f0, f1, f2, f3, f4, f5, f6, f7, f8, f9, f10, f11, f12, f13, f14⟩ := MBlk.f15 HRES.out
 obtain ⟨s0, s1, s2, s3, s4, s5, s6, s7, s8, s9, s10, s11, s12, s13, s14⟩ := MBlk.c15 HRES.out
 go_wp2_with fail
 refine bodyPost_ret (results_ct rfl _ _ _ 26 #[.int .i64 0, .int .i64 0, .bool false, .bool false, .int .i64 0, .int .i64 0, .int .i64 0, .bool false, .int .u64 0, .int .u64 0, .bool false, .int .u64 0, .int .u64 0, .string ⟨#[]⟩, .string ⟨#[]⟩] (0, 0) _ rfl (by have h_ := MBlk.put15 HRES.out (.int .i64 0) (.int .i64 0) (.bool false) (.bool false) (.int .i64 0) (.int .i64 0) (.int .i64 0) (.bool false) (.int .u64 0) (.int .u64 0) (.bool false) (.int .u64 0) (.int .u64 0) (.string ⟨#[]⟩) (.string ⟨#[]⟩); exact h_) Try.underlying26 rfl (by kernel_rfl)) rfl ?_
 exact ⟨rfl, by repeat (first | (with_reducible first | exact HBE.out | apply below_alloc | apply pw_below_drewN | apply below_drew1 | refine below_set ?_ HG0.out) | exact HBE.out)⟩
theorem ip4_Take.mono : ∀ a0 k, LeO (ip4_Take.f k a0) (ip4_Take.f (k + 1) a0) := by
 intro a0 k
 unfold ip4_Take.f
 repeat' first | (with_reducible exact ip4_heads.mono _ _) | (with_reducible exact ip4_Take.num_mono _ _ _) | (with_reducible exact LeO.refl _) | (with_reducible exact LeO.none _) | (with_reducible refine LeO.ite ?_ ?_) | (with_reducible refine LeO.bind ?_ (fun _ => ?_))
theorem ip4_Take.calls (k : Nat) (a0 : ByteArray) (r1 : Int) (r2 : Int) (r3 : Bool) (r4 : Bool) (r5 : Int) (r6 : Int) (r7 : Int) (r8 : Bool) (r9 : Int) (r10 : Int) (r11 : Bool) (r12 : Int) (r13 : Int) (r14 : ByteArray) (r15 : ByteArray) (r16 : Int) (w : World) (h : ip4_Take.f k a0 = some (r1, r2, r3, r4, r5, r6, r7, r8, r9, r10, r11, r12, r13, r14, r15, r16)) :
  Calls Try.prog 11 #[.string a0] w fun e w' => e = .returned (.tuple #[.agg #[.int .i64 r1, .int .i64 r2, .bool r3, .bool r4, .int .i64 r5, .int .i64 r6, .int .i64 r7, .bool r8, .int .u64 r9, .int .u64 r10, .bool r11, .int .u64 r12, .int .u64 r13, .string r14, .string r15], .int .i64 r16]) ∧ Below w.heap.size w w' := by
 unfold ip4_Take.f at h
 obtain ⟨⟨a, b, c⟩, hh, h⟩ := Option.bind_eq_some_iff.1 h
 simp only at h
 by_cases hc : c = 0
 case neg =>
  rw [if_pos hc] at h
  injection h with h; simp only [ip4_Take.no, Prod.mk.injEq] at h
  obtain ⟨rfl, rfl, rfl, rfl, rfl, rfl, rfl, rfl, rfl, rfl, rfl, rfl, rfl, rfl, rfl, rfl⟩ := h
  exact ip4_Take.short k a0 a b c w hh hc
 rw [if_neg (fun q => q hc)] at h
 by_cases hr : 20 ≤ a ∧ a ≤ b ∧ b ≤ (a0.size : Int)
 case neg => rw [if_pos hr] at h; cases h
 rw [if_neg (fun q => q hr)] at h
 obtain ⟨hd, rfl⟩ := Int.eq_ofNat_of_zero_le (show 0 ≤ a by omega)
 obtain ⟨wh, rfl⟩ := Int.eq_ofNat_of_zero_le (show 0 ≤ b by omega)
 rw [Int.toNat_natCast] at h
 subst hc
 obtain ⟨n0, hn0, h⟩ := Option.bind_eq_some_iff.1 h
 obtain ⟨tos, htos, h⟩ := Option.bind_eq_some_iff.1 h
 obtain ⟨n2, hn2, h⟩ := Option.bind_eq_some_iff.1 h
 obtain ⟨id, hid, h⟩ := Option.bind_eq_some_iff.1 h
 obtain ⟨off, hoff, h⟩ := Option.bind_eq_some_iff.1 h
 obtain ⟨ttl, httl, h⟩ := Option.bind_eq_some_iff.1 h
 obtain ⟨proto, hproto, h⟩ := Option.bind_eq_some_iff.1 h
 obtain ⟨n10, hn10, h⟩ := Option.bind_eq_some_iff.1 h
 obtain ⟨src, hsrc, h⟩ := Option.bind_eq_some_iff.1 h
 obtain ⟨dst, hdst, h⟩ := Option.bind_eq_some_iff.1 h
 obtain ⟨⟨ol, oe⟩, ho, h⟩ := Option.bind_eq_some_iff.1 h
 unfold ip4_Take.fin at h
 by_cases hq : 0 ≤ tos ∧ tos ≤ 255 ∧ 0 ≤ id ∧ id ≤ 65535 ∧ 0 ≤ off ∧ off ≤ 65535 ∧ 0 ≤ ttl ∧ ttl ≤ 255 ∧ 0 ≤ proto ∧ proto ≤ 255
 case neg => rw [if_pos hq] at h; cases h
 rw [if_neg (fun q => q hq)] at h
 obtain ⟨t1, t2, t3, t4, t5, t6, t7, t8, t9, t10⟩ := hq
 simp only at h
 by_cases hoe : oe = 0
 · rw [if_neg (fun q => q hoe)] at h
   injection h with h; simp only [Prod.mk.injEq, Int.toNat_natCast] at h
   obtain ⟨rfl, rfl, rfl, rfl, rfl, rfl, rfl, rfl, rfl, rfl, rfl, rfl, rfl, rfl, rfl, rfl⟩ := h
   exact ip4_Take.good k a0 hd wh n0 tos n2 id off ttl proto n10 src dst _ _ _ ol oe w hh (by omega) (by omega) (by omega) hn0 htos hn2 hid hoff httl hproto hn10 hsrc hdst ho ⟨t1, t2⟩ ⟨t3, t4⟩ ⟨t5, t6⟩ ⟨t7, t8⟩ ⟨t9, t10⟩ rfl rfl rfl hoe
 · rw [if_pos hoe] at h
   injection h with h; simp only [ip4_Take.no, Prod.mk.injEq] at h
   obtain ⟨rfl, rfl, rfl, rfl, rfl, rfl, rfl, rfl, rfl, rfl, rfl, rfl, rfl, rfl, rfl, rfl⟩ := h
   exact ip4_Take.opts k a0 hd wh n0 tos n2 id off ttl proto n10 src dst _ _ _ ol oe w hh (by omega) (by omega) (by omega) hn0 htos hn2 hid hoff httl hproto hn10 hsrc hdst ho ⟨t1, t2⟩ ⟨t3, t4⟩ ⟨t5, t6⟩ ⟨t7, t8⟩ ⟨t9, t10⟩ rfl rfl rfl hoe

/-! ### tally_Update: function 34 -/
def tally_Update.f (a0 : Int) (a1 : Int) (a2 : Int) : Option (Int) := (tally_Add.f (IntKind.u16.wrap (65535 - a0)) (IntKind.u16.wrap (65535 - a1))).bind fun t122 => ((tally_Add.f t122 a2).bind fun t123 => (some (IntKind.u16.wrap (65535 - t123))))
set_option maxHeartbeats 8000000 in
set_option maxRecDepth 100000 in
theorem tally_Update.calls (a0 : Int) (a1 : Int) (a2 : Int) (r : Int) (w : World) (h : tally_Update.f a0 a1 a2 = some r) :
  Calls Try.prog 34 #[.int .u16 a0, .int .u16 a1, .int .u16 a2] w fun e w' => e = .returned (.int .u16 r) ∧ Drawn0 w w' := by
 have H : ((tally_Add.f (IntKind.u16.wrap (65535 - a0)) (IntKind.u16.wrap (65535 - a1))).bind fun t122 => ((tally_Add.f t122 a2).bind fun t123 => (some (IntKind.u16.wrap (65535 - t123))))) = some r := h
 clear h
 replace H := Option.bind_eq_some_iff.mp H
 obtain ⟨t122, A40, H⟩ := H
 have A4 := Aside0.mk A40
 clear A40
 replace H := Option.bind_eq_some_iff.mp H
 obtain ⟨t123, A50, H⟩ := H
 have A5 := Aside0.mk A50
 clear A50
 obtain rfl := Option.some.inj H
 go_enter Try.func34, Try.ntmps34
 go_wp2_with (first | ((with_reducible refine gate_callee (f := 46) rfl ?_); refine sh_C 11 Try.func46 #[.int .u16 (IntKind.u16.wrap (65535 - a0)), .int .u16 (IntKind.u16.wrap (65535 - a1))] ?_; (with_reducible refine (tally_Add.calls (IntKind.u16.wrap (65535 - a0)) (IntKind.u16.wrap (65535 - a1)) t122 _ A4.out).mono ?_); rintro e w' ⟨rfl, ⟨nd, rfl⟩⟩; refine ⟨_, rfl, ?_⟩) | ((with_reducible refine gate_callee (f := 46) rfl ?_); refine sh_C 13 Try.func46 #[.int .u16 t122, .int .u16 a2] ?_; (with_reducible refine (tally_Add.calls t122 a2 t123 _ A5.out).mono ?_); rintro e w' ⟨rfl, ⟨nd, rfl⟩⟩; refine ⟨_, rfl, ?_⟩))
 go_ret
 exact ⟨by first | rfl | (simp; done) | (simp [*]; done), by repeat (first | exact Drawn0.refl _ | apply Drawn0.step)⟩

/-! ### ip4_Hop: function 13 (by hand) -/
/-- []byte(s): its cells, that they may be written, and what is read when one was. -/
theorem bytes_cell (W : World) (e : TypeId) (s : ByteArray) (j : Nat) (hj : j < s.size) : (Lib.bytesWorld W e s).cell? ⟨W.heap.size, j, none⟩ = some (.int .u8 (bt s (j : Int))) := by
 rw [Lib.bytesWorld_cell W e s j hj]
 have h : ((s.data.toList.getD j 0).toNat : Int) = bt s (j : Int) := by
  rw [← rd_bytesOf]
  have hl : j < s.data.toList.length := by rw [data_length]; exact hj
  simp [rd, bytesOf, List.getD_eq_getElem?_getD, List.getElem?_eq_getElem hl]
 rw [h]
theorem bytes_free (W : World) (e : TypeId) (s : ByteArray) (j : Nat) (hj : j < s.size) : (Lib.bytesWorld W e s).frozen? ⟨W.heap.size, j, none⟩ = false := by
 have hs : s.size ≤ (Lib.bytesCells W e s).size := by simp [Lib.bytesCells, Array.size_append, Array.size_map]
 unfold World.frozen?
 rw [show (⟨W.heap.size, j, none⟩ : Addr).block = W.heap.size from rfl, Lib.bytesWorld_at_new]
 simp
 omega
theorem C_set {W : World} {g n : Nat} {l : List Int} (h : (Kd.int .u8).C W (some ⟨g, 0, none⟩) n l) {j : Nat} (hj : j < n) (v : Int) : (Kd.int .u8).C (W.setCell ⟨g, j, none⟩ (.int .u8 v)) (some ⟨g, 0, none⟩) n (l.set j v) := by
 have hr := Kd.reads_of_C (enc := Value.int .u8) (d := (0 : Int)) (h1 := fun _ => rfl) h
 have hl : l.length = n := hr.1
 refine Kd.C_of_reads (enc := Value.int .u8) (d := (0 : Int)) (h1 := fun _ => rfl) ⟨by rw [List.length_set]; exact hl, hr.2.1, fun hp => ?_⟩
 obtain ⟨ad, e, hc⟩ := hr.2.2 hp
 injection e with e
 subst e
 refine ⟨_, rfl, fun i hi => ?_⟩
 have hci := hc i hi
 rw [add_plain] at hci ⊢
 by_cases hij : i = j
 · subst hij
   rw [World.cell?_setCell_same _ _ _ hci]
   simp [List.getD_eq_getElem?_getD, hl, hj]
 · rw [World.cell?_setCell_other _ _ _ _ (by intro h0; injection h0 with h1 h2 h3; exact hij h2.symm), hci]
   simp [List.getD_eq_getElem?_getD, Ne.symm hij]

/-- Two bytes as a word, as the program has it. -/
def ip4_Hop.word (x y : Int) : Int := Go.bits .or .u16 (x * 256) y
set_option maxHeartbeats 2000000 in
set_option maxRecDepth 100000 in
theorem ip4_Hop.word_calls (gb g n c j : Nat) (x y : Int) (w : World) (hb : w.cell? ⟨gb, 0, none⟩ = some (.slice (some ⟨g, 0, none⟩) n c)) (hx : w.cell? ⟨g, j, none⟩ = some (.int .u8 x)) (hy : w.cell? ⟨g, j + 1, none⟩ = some (.int .u8 y))
  (hj : j = 8 ∨ j = 10) (hn : 12 ≤ n) (hx0 : 0 ≤ x) (hx1 : x ≤ 255) (hy0 : 0 ≤ y) (hy1 : y ≤ 255) :
  Calls Try.prog 33 #[.int .i64 (j : Int), .pointer (some ⟨gb, 0, none⟩)] w fun e w' => e = .returned (.int .u16 (ip4_Hop.word x y)) ∧ Drawn0 w w' := by
 have q0 : (8 : Int) < (n : Int) := by omega
 have q1 : (9 : Int) < (n : Int) := by omega
 have q2 : (10 : Int) < (n : Int) := by omega
 have q3 : (11 : Int) < (n : Int) := by omega
 have e0 : IntKind.u16.wrap (x * 256) = x * 256 := by simp only [IntKind.wrap, IntKind.signed, IntKind.bits, Bool.false_and, Bool.false_eq_true, if_false]; omega
 rcases hj with rfl | rfl
 all_goals
  go_enter Try.func33, Try.ntmps33
  go_wp2_with fail
  go_quiet (fail)
  go_wp2_with fail
  go_ret
  exact ⟨rfl, ⟨nq, rfl⟩⟩
def ip4_Hop.of (s : ByteArray) (n : Nat) (c : Int) : ByteArray := strOfNums ((((bytesOf (s.extract 0 n)).set 8 ((bt s 8 - 1) % 256)).set 10 (c / 256)).set 11 (c % 256))
def ip4_Hop.f (k : Nat) (a0 : ByteArray) : Option (ByteArray × Int) := (ip4_Take.f k a0).bind fun p =>
 if ¬ p.2.2.2.2.2.2.2.2.2.2.2.2.2.2.2 = 0 then some (⟨#[]⟩, p.2.2.2.2.2.2.2.2.2.2.2.2.2.2.2) else if p.2.2.2.2.2.1 < 2 then some (⟨#[]⟩, 54) else
 (ip4_heads.f k a0).bind fun h => if ¬ (12 ≤ h.2.1 ∧ h.2.1 ≤ (a0.size : Int) ∧ h.2.1 ≤ 65535) then none else
 (tally_Update.f (ip4_Hop.word (bt a0 10) (bt a0 11)) (ip4_Hop.word (bt a0 8) (bt a0 9)) (ip4_Hop.word ((bt a0 8 - 1) % 256) (bt a0 9))).bind fun c => if ¬ (0 ≤ c ∧ c ≤ 65535) then none else
 some (ip4_Hop.of a0 h.2.1.toNat c, 0)
theorem ip4_Hop.bt_extract {s : ByteArray} {n j : Nat} (hj : j < n) : bt (s.extract 0 n) (j : Int) = bt s (j : Int) := by
 rw [← rd_bytesOf, ← rd_bytesOf]
 simp [rd, bytesOf, List.getElem?_take]
 rw [if_pos hj]
set_option maxHeartbeats 4000000 in
set_option maxRecDepth 100000 in
theorem ip4_Hop.good (k : Nat) (s : ByteArray) (t1 t2 : Int) (t3 t4 : Bool) (t5 t6 t7 : Int) (t8 : Bool) (t9 t10 : Int) (t11 : Bool) (t12 t13 : Int) (t14 t15 : ByteArray) (hd he : Int) (wh : Nat) (c : Int) (w : World)
  (ht : ip4_Take.f k s = some (t1, t2, t3, t4, t5, t6, t7, t8, t9, t10, t11, t12, t13, t14, t15, 0)) (h2 : ¬ t6 < 2) (hh : ip4_heads.f k s = some (hd, (wh : Int), he)) (h12 : 12 ≤ wh) (hws : wh ≤ s.size) (hwb : wh ≤ 65535)
  (hc : tally_Update.f (ip4_Hop.word (bt s 10) (bt s 11)) (ip4_Hop.word (bt s 8) (bt s 9)) (ip4_Hop.word ((bt s 8 - 1) % 256) (bt s 9)) = some c) (hc0 : 0 ≤ c) (hc1 : c ≤ 65535) :
  Calls Try.prog 13 #[.string s] w fun e w' => e = .returned (.tuple #[.string (ip4_Hop.of s wh c), .int .i64 0]) ∧ Below w.heap.size w w' := by
 have HT := Aside0.mk ht; have HH := Aside0.mk hh; have HCU := Aside0.mk hc
 clear ht hh hc
 have HB := Aside0.mk (Below.refl w.heap.size w)
 have hu26 := Try.underlying26
 have hu24 := Try.underlying24
 have kb := fun s W => print_bytes (P := Try.prog) 9 45 5 Try.underlying9 Try.underlying45 Try.underlying5 s W
 have g1 : ((wh : Int) ≤ (s.size : Int)) = True := eq_true (by omega)
 have g0 : (0 ≤ (wh : Int)) = True := eq_true (by omega)
 have gs : (s.extract 0 wh).size = wh := by simp; omega
 have gm : min wh s.size = wh := by omega
 go_enter Try.func13, Try.ntmps13
 go_wp2_with fail
 refine (ip4_Take.calls k s _ _ _ _ _ _ _ _ _ _ _ _ _ _ _ _ _ HT.out).mono ?_
 rintro e w2 ⟨rfl, hb⟩
 replace HB := sh_S HB hb
 clear hb
 go_wp2_with fail
 refine (ip4_heads.calls k s _ _ _ _ HH.out).mono ?_
 rintro e w3 ⟨rfl, hb⟩
 replace HB := sh_S HB hb
 have HW3 := Aside0.mk (show w.heap.size ≤ w3.heap.size from HB.out.size)
 clear hb
 go_wp2_with fail
 have hC := MStr.C_bytes w3 5 (s.extract 0 wh) (by omega)
 rw [gs] at hC
 have hbl : Below w3.heap.size w3 (Lib.bytesWorld w3 5 (s.extract 0 wh)) := bytes_below (Below.refl _ _) (Nat.le_refl _) _ _
 have hsz : (Lib.bytesWorld w3 5 (s.extract 0 wh)).heap.size = w3.heap.size + 1 := Lib.bytesWorld_size _ _ _
 have y8 := bytes_cell w3 5 (s.extract 0 wh) 8 (by omega); rw [ip4_Hop.bt_extract (by omega)] at y8; have z8 := bytes_free w3 5 (s.extract 0 wh) 8 (by omega); have y9 := bytes_cell w3 5 (s.extract 0 wh) 9 (by omega); rw [ip4_Hop.bt_extract (by omega)] at y9; have z9 := bytes_free w3 5 (s.extract 0 wh) 9 (by omega); have y10 := bytes_cell w3 5 (s.extract 0 wh) 10 (by omega); rw [ip4_Hop.bt_extract (by omega)] at y10; have z10 := bytes_free w3 5 (s.extract 0 wh) 10 (by omega); have y11 := bytes_cell w3 5 (s.extract 0 wh) 11 (by omega); rw [ip4_Hop.bt_extract (by omega)] at y11; have z11 := bytes_free w3 5 (s.extract 0 wh) 11 (by omega)
 generalize hW1 : Lib.bytesWorld w3 5 (s.extract 0 wh) = W1 at *
 obtain ⟨cp, hcp⟩ : ∃ cp, grownCap w3 wh 0 5 = cp := ⟨_, rfl⟩
 rw [hcp]
 have hba := below_alloc (Below.refl W1.heap.size W1) (Obj.cells #[Value.slice (some ⟨w3.heap.size, 0, none⟩) wh cp] 45)
 have hs := heap_alloc_new W1 (Obj.cells #[Value.slice (some ⟨w3.heap.size, 0, none⟩) wh cp] 45)
 replace hC := Kd.C_below hC hba
 replace y8 := pw_cell_below hba y8; replace z8 := (hba.frozen (p := ⟨w3.heap.size, 8, none⟩) (show w3.heap.size < W1.heap.size by omega)).trans z8; replace y9 := pw_cell_below hba y9; replace z9 := (hba.frozen (p := ⟨w3.heap.size, 9, none⟩) (show w3.heap.size < W1.heap.size by omega)).trans z9; replace y10 := pw_cell_below hba y10; replace z10 := (hba.frozen (p := ⟨w3.heap.size, 10, none⟩) (show w3.heap.size < W1.heap.size by omega)).trans z10; replace y11 := pw_cell_below hba y11; replace z11 := (hba.frozen (p := ⟨w3.heap.size, 11, none⟩) (show w3.heap.size < W1.heap.size by omega)).trans z11
 replace HB := Aside0.mk (show Below w.heap.size w (W1.alloc (Obj.cells #[Value.slice (some ⟨w3.heap.size, 0, none⟩) wh cp] 45)) from below_alloc (below_step HB.out hbl) _)
 generalize hW2 : W1.alloc (Obj.cells #[Value.slice (some ⟨w3.heap.size, 0, none⟩) wh cp] 45) = W2 at *
 have xs : W2.cell? ⟨W1.heap.size, 0, none⟩ = some (.slice (some ⟨w3.heap.size, 0, none⟩) wh cp) := MStr.block_cell hs rfl
 have hne : w3.heap.size ≠ W1.heap.size := by omega
 have HGE := Aside0.mk (show w.heap.size ≤ w3.heap.size from Nat.le_trans (Nat.le_refl _) (by have := HW3.out; omega))
 generalize w3.heap.size = g at *
 generalize W1.heap.size = gb at *
 clear hW1 hW2 hcp hba hbl hs hsz kb
 have f8 : IntKind.u8.wrap (bt s 8 - 1) = (bt s 8 - 1) % 256 := by simp only [IntKind.wrap, IntKind.signed, IntKind.bits, Bool.false_and, Bool.false_eq_true, if_false]; rfl
 have f1 : IntKind.u8.wrap (c / 256) = c / 256 := by simp only [IntKind.wrap, IntKind.signed, IntKind.bits, Bool.false_and, Bool.false_eq_true, if_false]; omega
 have f2 : IntKind.u8.wrap c = c % 256 := by simp only [IntKind.wrap, IntKind.signed, IntKind.bits, Bool.false_and, Bool.false_eq_true, if_false]; rfl
 have b8 := bt_range s 8; have b9 := bt_range s 9; have b10 := bt_range s 10; have b11 := bt_range s 11
 obtain ⟨v8, hv8⟩ : ∃ v8, bt s 8 = v8 := ⟨_, rfl⟩
 obtain ⟨v9, hv9⟩ : ∃ v9, bt s 9 = v9 := ⟨_, rfl⟩
 obtain ⟨v10, hv10⟩ : ∃ v10, bt s 10 = v10 := ⟨_, rfl⟩
 obtain ⟨v11, hv11⟩ : ∃ v11, bt s 11 = v11 := ⟨_, rfl⟩
 rw [hv8, hv9, hv10, hv11] at HCU
 replace y8 : W2.cell? ⟨g, 8, none⟩ = some (.int .u8 v8) := by rw [← hv8]; exact y8
 replace y9 : W2.cell? ⟨g, 9, none⟩ = some (.int .u8 v9) := by rw [← hv9]; exact y9
 replace y10 : W2.cell? ⟨g, 10, none⟩ = some (.int .u8 v10) := by rw [← hv10]; exact y10
 replace y11 : W2.cell? ⟨g, 11, none⟩ = some (.int .u8 v11) := by rw [← hv11]; exact y11
 rw [hv8] at f8 b8; rw [hv9] at b9; rw [hv10] at b10; rw [hv11] at b11
 have HV8 := Aside0.mk hv8
 clear hv8 hv9 hv10 hv11
 obtain ⟨b80, b81⟩ := b8; obtain ⟨b90, b91⟩ := b9; obtain ⟨ba0, ba1⟩ := b10; obtain ⟨bb0, bb1⟩ := b11
 refine (ip4_Hop.word_calls gb g wh cp 8 v8 v9 W2 xs y8 y9 (.inl rfl) h12 b80 b81 b90 b91).mono ?_
 rintro e w5 ⟨rfl, ⟨n1, rfl⟩⟩
 have q8 : (8 : Int) < (wh : Int) := by omega
 have q10 : (10 : Int) < (wh : Int) := by omega
 have q11 : (11 : Int) < (wh : Int) := by omega
 obtain ⟨t8, ht8⟩ : ∃ t8, (v8 - 1) % 256 = t8 := ⟨_, rfl⟩
 have ht80 : 0 ≤ t8 := by omega
 have ht81 : t8 ≤ 255 := by omega
 rw [ht8] at f8 HCU
 have HT8 := Aside0.mk ht8
 clear ht8
 go_wp2_with fail
 have ne8 : ∀ j : Nat, j ≠ 8 → (⟨g, 8, none⟩ : Addr) ≠ ⟨g, j, none⟩ := fun j h e => by injection e with e1 e2; omega
 have neb : ∀ j : Nat, (⟨g, j, none⟩ : Addr) ≠ ⟨gb, 0, none⟩ := fun j e => by injection e with e1 e2; exact hne e1
 have hC3 := C_set ((Kd.C_drewN hC n1 : (Kd.int .u8).C (W2.drewN n1) (some ⟨g, 0, none⟩) wh _)) (j := 8) (by omega) t8
 replace HB := Aside0.mk (show Below w.heap.size w ((W2.drewN n1).setCell ⟨g, 8, none⟩ (.int .u8 t8)) from below_set (pw_below_drewN HB.out _) HGE.out)
 replace y8 : ((W2.drewN n1).setCell ⟨g, 8, none⟩ (.int .u8 t8)).cell? ⟨g, 8, none⟩ = some (.int .u8 t8) := World.cell?_setCell_same _ _ _ (show (W2.drewN n1).cell? ⟨g, 8, none⟩ = _ from y8)
 replace y9 : ((W2.drewN n1).setCell ⟨g, 8, none⟩ (.int .u8 t8)).cell? ⟨g, 9, none⟩ = some (.int .u8 v9) := (World.cell?_setCell_other _ _ _ _ (ne8 9 (by decide))).trans y9
 replace y10 : ((W2.drewN n1).setCell ⟨g, 8, none⟩ (.int .u8 t8)).cell? ⟨g, 10, none⟩ = some (.int .u8 v10) := (World.cell?_setCell_other _ _ _ _ (ne8 10 (by decide))).trans y10
 replace y11 : ((W2.drewN n1).setCell ⟨g, 8, none⟩ (.int .u8 t8)).cell? ⟨g, 11, none⟩ = some (.int .u8 v11) := (World.cell?_setCell_other _ _ _ _ (ne8 11 (by decide))).trans y11
 replace xs : ((W2.drewN n1).setCell ⟨g, 8, none⟩ (.int .u8 t8)).cell? ⟨gb, 0, none⟩ = some (.slice (some ⟨g, 0, none⟩) wh cp) := (World.cell?_setCell_other _ _ _ _ (neb 8)).trans xs
 replace z10 : ((W2.drewN n1).setCell ⟨g, 8, none⟩ (.int .u8 t8)).frozen? ⟨g, 10, none⟩ = false := (World.frozen?_setCell _ _ _ _).trans z10
 replace z11 : ((W2.drewN n1).setCell ⟨g, 8, none⟩ (.int .u8 t8)).frozen? ⟨g, 11, none⟩ = false := (World.frozen?_setCell _ _ _ _).trans z11
 clear z8 z9
 generalize (W2.drewN n1).setCell ⟨g, 8, none⟩ (.int .u8 t8) = W3 at *
 clear hC
 refine (ip4_Hop.word_calls gb g wh cp 10 v10 v11 W3 xs y10 y11 (.inr rfl) h12 ba0 ba1 bb0 bb1).mono ?_
 rintro e w6 ⟨rfl, ⟨n2, rfl⟩⟩
 go_wp2_with fail
 refine (ip4_Hop.word_calls gb g wh cp 8 t8 v9 (W3.drewN n2) xs y8 y9 (.inl rfl) h12 ht80 ht81 b90 b91).mono ?_
 rintro e w7 ⟨rfl, ⟨n3, rfl⟩⟩
 go_wp2_with fail
 refine (tally_Update.calls _ _ _ c _ HCU.out).mono ?_
 rintro e w8 ⟨rfl, ⟨n4, rfl⟩⟩
 go_wp2_with fail
 go_region
 have hCf := C_set (C_set (Kd.C_drewN hC3 (n2 + n3 + n4 + 1)) (j := 10) (by omega) (c / 256)) (j := 11) (by omega) (c % 256)
 have hcv := Kd.C_string (P := Try.prog) (src := 45) (dst := 9) (e := 5) (c := cp) Try.underlying45 Try.underlying5 Try.underlying9 hCf
 have xf : (((W3.drewN (n2 + n3 + n4 + 1)).setCell ⟨g, 10, none⟩ (.int .u8 (c / 256))).setCell ⟨g, 11, none⟩ (.int .u8 (c % 256))).cell? ⟨gb, 0, none⟩ = some (.slice (some ⟨g, 0, none⟩) wh cp) := (World.cell?_setCell_other _ _ _ _ (neb 11)).trans ((World.cell?_setCell_other _ _ _ _ (neb 10)).trans xs)
 have HBF := Aside0.mk (show Below w.heap.size w (((W3.drewN (n2 + n3 + n4 + 1)).setCell ⟨g, 10, none⟩ (.int .u8 (c / 256))).setCell ⟨g, 11, none⟩ (.int .u8 (c % 256))) from below_set (below_set (pw_below_drewN HB.out _) HGE.out) HGE.out)
 clear hCf
 generalize (((W3.drewN (n2 + n3 + n4 + 1)).setCell ⟨g, 10, none⟩ (.int .u8 (c / 256))).setCell ⟨g, 11, none⟩ (.int .u8 (c % 256))) = W9 at *
 go_wp2_with fail
 go_ret2
 refine ⟨?_, HBF.out⟩
 unfold ip4_Hop.of
 rw [HV8.out, HT8.out]
 rfl
set_option maxHeartbeats 2000000 in
set_option maxRecDepth 100000 in
theorem ip4_Hop.low (k : Nat) (s : ByteArray) (t1 t2 : Int) (t3 t4 : Bool) (t5 t6 t7 : Int) (t8 : Bool) (t9 t10 : Int) (t11 : Bool) (t12 t13 : Int) (t14 t15 : ByteArray) (w : World) (ht : ip4_Take.f k s = some (t1, t2, t3, t4, t5, t6, t7, t8, t9, t10, t11, t12, t13, t14, t15, 0)) (h2 : t6 < 2) :
  Calls Try.prog 13 #[.string s] w fun e w' => e = .returned (.tuple #[.string ⟨#[]⟩, .int .i64 54]) ∧ Below w.heap.size w w' := by
 have HT := Aside0.mk ht
 clear ht
 have HB := Aside0.mk (Below.refl w.heap.size w)
 have hu26 := Try.underlying26
 have hu24 := Try.underlying24
 go_enter Try.func13, Try.ntmps13
 go_wp2_with fail
 refine (ip4_Take.calls k s _ _ _ _ _ _ _ _ _ _ _ _ _ _ _ _ _ HT.out).mono ?_
 rintro e w2 ⟨rfl, hb⟩
 replace HB := sh_S HB hb
 clear hb
 go_wp2_with fail
 go_ret2
 exact ⟨rfl, (sh_B HB)⟩
set_option maxHeartbeats 2000000 in
set_option maxRecDepth 100000 in
theorem ip4_Hop.bad (k : Nat) (s : ByteArray) (t1 t2 : Int) (t3 t4 : Bool) (t5 t6 t7 : Int) (t8 : Bool) (t9 t10 : Int) (t11 : Bool) (t12 t13 : Int) (t14 t15 : ByteArray) (er : Int) (w : World) (ht : ip4_Take.f k s = some (t1, t2, t3, t4, t5, t6, t7, t8, t9, t10, t11, t12, t13, t14, t15, er)) (h2 : ¬ er = 0) :
  Calls Try.prog 13 #[.string s] w fun e w' => e = .returned (.tuple #[.string ⟨#[]⟩, .int .i64 er]) ∧ Below w.heap.size w w' := by
 have HT := Aside0.mk ht
 clear ht
 have he : (er != 0) = true := by simpa using h2
 clear h2
 have HB := Aside0.mk (Below.refl w.heap.size w)
 have hu26 := Try.underlying26
 have hu24 := Try.underlying24
 go_enter Try.func13, Try.ntmps13
 go_wp2_with fail
 refine (ip4_Take.calls k s _ _ _ _ _ _ _ _ _ _ _ _ _ _ _ _ _ HT.out).mono ?_
 rintro e w2 ⟨rfl, hb⟩
 replace HB := sh_S HB hb
 clear hb
 go_wp2_with fail
 go_ret2
 exact ⟨rfl, (sh_B HB)⟩
theorem ip4_Hop.mono : ∀ a0 k, LeO (ip4_Hop.f k a0) (ip4_Hop.f (k + 1) a0) := by
 intro a0 k
 unfold ip4_Hop.f
 repeat' first | (with_reducible exact ip4_Take.mono _ _) | (with_reducible exact ip4_heads.mono _ _) | (with_reducible exact LeO.refl _) | (with_reducible exact LeO.none _) | (with_reducible refine LeO.ite ?_ ?_) | (with_reducible refine LeO.bind ?_ (fun _ => ?_))
theorem ip4_Hop.calls (k : Nat) (a0 : ByteArray) (r1 : ByteArray) (r2 : Int) (w : World) (h : ip4_Hop.f k a0 = some (r1, r2)) :
  Calls Try.prog 13 #[.string a0] w fun e w' => e = .returned (.tuple #[.string r1, .int .i64 r2]) ∧ Below w.heap.size w w' := by
 unfold ip4_Hop.f at h
 obtain ⟨⟨t1, t2, t3, t4, t5, t6, t7, t8, t9, t10, t11, t12, t13, t14, t15, er⟩, ht, h⟩ := Option.bind_eq_some_iff.1 h
 simp only at h
 by_cases he : er = 0
 case neg =>
  rw [if_pos he] at h; injection h with h; injection h with e1 e2; subst e1 e2
  exact ip4_Hop.bad k a0 t1 t2 t3 t4 t5 t6 t7 t8 t9 t10 t11 t12 t13 t14 t15 er w ht he
 subst he
 rw [if_neg (fun q => q rfl)] at h
 by_cases h4 : t6 < 2
 · rw [if_pos h4] at h; injection h with h; injection h with e1 e2; subst e1 e2
   exact ip4_Hop.low k a0 t1 t2 t3 t4 t5 t6 t7 t8 t9 t10 t11 t12 t13 t14 t15 w ht h4
 rw [if_neg h4] at h
 obtain ⟨⟨hd, wi, he⟩, hh, h⟩ := Option.bind_eq_some_iff.1 h
 simp only at h
 by_cases hq : 12 ≤ wi ∧ wi ≤ (a0.size : Int) ∧ wi ≤ 65535
 case neg => rw [if_pos hq] at h; cases h
 rw [if_neg (fun q => q hq)] at h
 obtain ⟨wh, rfl⟩ := Int.eq_ofNat_of_zero_le (show 0 ≤ wi by omega)
 rw [Int.toNat_natCast] at h
 obtain ⟨c, hc, h⟩ := Option.bind_eq_some_iff.1 h
 by_cases hr : 0 ≤ c ∧ c ≤ 65535
 case neg => rw [if_pos hr] at h; cases h
 rw [if_neg (fun q => q hr)] at h; injection h with h; injection h with e1 e2; subst e1 e2
 exact ip4_Hop.good k a0 t1 t2 t3 t4 t5 t6 t7 t8 t9 t10 t11 t12 t13 t14 t15 hd he wh c w ht h4 hh (by omega) (by omega) (by omega) hc hr.1 hr.2

end Go.Proofs.Ytedampcicmaamaa.PBase
