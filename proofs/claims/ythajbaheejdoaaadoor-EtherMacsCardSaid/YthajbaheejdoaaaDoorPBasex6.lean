/- Functions of the program as Lean functions, each with a proof that a call comes to what it says. Conditions: those of each theorem. Laid by a program of this session. -/
import Derived.Test.YthajbaheejdoaaaDoorPBasex0
import Derived.Test.YthajbaheejdoaaaDoorPBasex4
import Derived.Test.YthajbaheejdoaaaDoorPBasex5
namespace Go.Proofs.YthajbaheejdoaaaDoor.PBase
open Go.RowKit Go.Proofs.YthajbaheejdoaaaDoor Go.Proofs.YthajbaheejdoaaaDoorW.PrintWords Go.Proofs.YthajbaheejdoaaaDoorW.PrintLast Go.Proofs.YthajbaheejdoaaaDoorW.PrintMore
attribute [local go_sem] max2_int min2_int max_two min_two max_three min_three max_four min_four   -- for this text's walks alone
set_option linter.unusedVariables false
set_option linter.unusedSimpArgs false

/-! ### ether_TakeArp: function 17 (by hand) -/
/-- The fields of a message: how wide, and what they must be (0: anything). -/
def ether_TakeArp.tab : List (Int × Int) := [(2, 1), (2, 2048), (1, 6), (1, 4), (2, 0), (6, 0), (4, 0), (6, 0), (4, 0)]
/-- The numbers read, whether the bytes were too few, whether all that must be is. -/
def ether_TakeArp.go (k : Nat) : List (Int × Int) → List Int → List Int → Bool → Bool → Option (List Int × Bool × Bool)
 | [], acc, _, s, fit => some (acc, s, fit)
 | x :: t, acc, l, s, fit => (octet_Get.f k l 0 x.1).bind fun n => if s = false ∧ n.2 = true then (if x.1 ≤ (l.length : Int) then ether_TakeArp.go k t (acc ++ [n.1]) (l.drop x.1.toNat) false (fit && (x.2 == 0 || n.1 == x.2)) else none)
   else ether_TakeArp.go k t (acc ++ [0]) [] true (fit && (x.2 == 0 || (0 : Int) == x.2))
theorem ether_TakeArp.go_mono (k : Nat) : ∀ (t : List (Int × Int)) (acc l : List Int) (s fit : Bool), LeO (ether_TakeArp.go k t acc l s fit) (ether_TakeArp.go (k + 1) t acc l s fit)
 | [], _, _, _, _ => LeO.refl _
 | x :: t, acc, l, s, fit => by
  rw [ether_TakeArp.go, ether_TakeArp.go]
  exact LeO.bind (octet_Get.mono _ _ _ _) (fun n => LeO.ite (LeO.ite (ether_TakeArp.go_mono k t _ _ _ _) (LeO.refl _)) (ether_TakeArp.go_mono k t _ _ _ _))
def ether_TakeArp.no (e : Int) : Int × Int × Bool × Int × Int × Int × Bool × Int × Int × Int := (0, 0, false, 0, 0, 0, false, 0, 0, e)
def ether_TakeArp.v (r : Int × Int × Bool × Int × Int × Int × Bool × Int × Int × Int) : Value := .tuple #[.agg #[.int .i64 r.1, .int .u64 r.2.1, .bool r.2.2.1, .int .u64 r.2.2.2.1, .int .u64 r.2.2.2.2.1, .int .u64 r.2.2.2.2.2.1, .bool r.2.2.2.2.2.2.1, .int .u64 r.2.2.2.2.2.2.2.1, .int .u64 r.2.2.2.2.2.2.2.2.1], .int .i64 r.2.2.2.2.2.2.2.2.2]
/-- What is made of the numbers. -/
def ether_TakeArp.fin (x : List Int × Bool × Bool) : Option (Int × Int × Bool × Int × Int × Int × Bool × Int × Int × Int) :=
 if x.2.1 = true then some (ether_TakeArp.no 41) else if x.2.2 = false then some (ether_TakeArp.no 40) else
 (ether_isArp.f (wrap64 (x.1.getD 4 0)) (x.1.getD 5 0) false 0 (x.1.getD 6 0) (x.1.getD 7 0) false 0 (x.1.getD 8 0)).bind fun y => if y = true then some (wrap64 (x.1.getD 4 0), x.1.getD 5 0, false, 0, x.1.getD 6 0, x.1.getD 7 0, false, 0, x.1.getD 8 0, 0) else some (ether_TakeArp.no 40)
def ether_TakeArp.f (k : Nat) (s : ByteArray) : Option (Int × Int × Bool × Int × Int × Int × Bool × Int × Int × Int) :=
 if 140737488355200 < s.size then none else (ether_TakeArp.go k ether_TakeArp.tab [] (bytesOf s) false true).bind ether_TakeArp.fin
theorem ether_TakeArp.mono : ∀ a0 k, LeO (ether_TakeArp.f k a0) (ether_TakeArp.f (k + 1) a0) := by
 intro a0 k
 unfold ether_TakeArp.f
 exact LeO.ite (LeO.none _) (LeO.bind (ether_TakeArp.go_mono _ _ _ _ _ _) (fun _ => LeO.refl _))
/-- A reader at work (or one that is short), and blocks beside it that its calls do not touch; nothing below wb has changed. -/
structure RT (T : Nat) (wb : World) (bs : List (Nat × Obj)) (g b : Nat) (l : List Int) (s : Bool) (W : World) : Prop where mk ::
 (rd : MReader.Rdr T W g b l s)
 (keep : ∀ x ∈ bs, W.heap[x.1]? = some x.2 ∧ x.1 ≠ g ∧ x.1 ≠ b)
 (below : Below wb.heap.size wb W)
 (ge : wb.heap.size ≤ g)
section
variable {T g b : Nat} {wb W W2 : World} {bs : List (Nat × Obj)} {l l2 : List Int} {s s2 : Bool}
theorem RT.num (h : RT T wb bs g b l s W) (hgr : W.grownBy W2 (some g)) (hr : MReader.Rdr T W2 g b l2 s2) : RT T wb bs g b l2 s2 W2 :=
 ⟨hr, fun x hx => by
  obtain ⟨h1, h2, h3⟩ := h.keep x hx
  exact ⟨(hgr.block _ (Array.getElem?_eq_some_iff.1 h1).1 (fun e => h2 (by injection e))).trans h1, h2, h3⟩, MReader.below_grown h.below hgr h.ge h.below.size, h.ge⟩
theorem RT.more (h : RT T wb bs g b l s W) (hb : Below W.heap.size W W2) : RT T wb bs g b l s W2 :=
 ⟨h.rd.below hb, fun x hx => by
  obtain ⟨h1, h2, h3⟩ := h.keep x hx
  exact ⟨MStr.block_below h1 hb, h2, h3⟩, below_then h.below h.below.size hb, h.ge⟩
theorem RT.alloc (h : RT T wb bs g b l s W) (o : Obj) : RT T wb ((W.heap.size, o) :: bs) g b l s (W.alloc o) := by
 have h2 := h.more (W2 := W.alloc o) (below_alloc (Below.refl _ _) o)
 refine ⟨h2.rd, fun x hx => ?_, h2.below, h2.ge⟩
 rcases List.mem_cons.1 hx with rfl | hx
 · exact ⟨heap_alloc_new W o, by have := h.rd.glt; simp only; omega, by have := h.rd.lt; simp only; omega⟩
 · exact h2.keep x hx
theorem RT.set {gp t : Nat} {cs : Array Value} (h : RT T wb ((gp, .cells cs t (0, 0)) :: bs) g b l s W) (hge : wb.heap.size ≤ gp) (hne : ∀ x ∈ bs, x.1 ≠ gp) (j : Nat) (v : Value) :
  RT T wb ((gp, .cells (cs.setIfInBounds j v) t (0, 0)) :: bs) g b l s (W.setCell ⟨gp, j, none⟩ v) := by
 obtain ⟨h1, h2, h3⟩ := h.keep _ (List.mem_cons_self ..)
 have hot : ∀ q, q ≠ gp → (W.setCell ⟨gp, j, none⟩ v).heap[q]? = W.heap[q]? := fun q hq => Below.heap_setCell W ⟨gp, j, none⟩ v q hq
 refine ⟨h.rd.keep (hot g (fun e => h2 e.symm)) (hot b (fun e => h3 e.symm)) (by simp [World.setCell]), fun x hx => ?_, below_set h.below hge, h.ge⟩
 rcases List.mem_cons.1 hx with rfl | hx
 · exact ⟨MReader.setCell_heap h1, h2, h3⟩
 · obtain ⟨k1, k2, k3⟩ := h.keep x (List.mem_cons_of_mem _ hx)
   exact ⟨(hot _ (hne x hx)).trans k1, k2, k3⟩
theorem RT.cell (h : RT T wb bs g b l s W) {gp t j : Nat} {cs : Array Value} {v : Value} (hm : (gp, Obj.cells cs t (0, 0)) ∈ bs) (hj : cs[j]? = some v) : W.cell? ⟨gp, j, none⟩ = some v := MStr.block_cell (h.keep _ hm).1 hj
theorem RT.free (h : RT T wb bs g b l s W) {gp t : Nat} (j : Nat) {cs : Array Value} (hm : (gp, Obj.cells cs t (0, 0)) ∈ bs) : W.frozen? ⟨gp, j, none⟩ = false := MStr.block_frozen (h.keep _ hm).1
theorem RT.sub {bs2 : List (Nat × Obj)} (h : RT T wb bs g b l s W) (hs : ∀ x ∈ bs2, x ∈ bs) : RT T wb bs2 g b l s W := ⟨h.rd, fun x hx => h.keep x (hs x hx), h.below, h.ge⟩
end

theorem put9 {w : World} {g T : Nat} {v0 v1 v2 v3 v4 v5 v6 v7 v8 : Value} (h : w.heap[g]? = some (.cells #[v0, v1, v2, v3, v4, v5, v6, v7, v8] T (0, 0))) (b0 b1 b2 b3 b4 b5 b6 b7 b8 : Value) :
    (((((((((w.setCell ⟨g, 0, none⟩ b0).setCell ⟨g, 1, none⟩ b1).setCell ⟨g, 2, none⟩ b2).setCell ⟨g, 3, none⟩ b3).setCell ⟨g, 4, none⟩ b4).setCell ⟨g, 5, none⟩ b5).setCell ⟨g, 6, none⟩ b6).setCell ⟨g, 7, none⟩ b7).setCell ⟨g, 8, none⟩ b8).heap[g]? = some (.cells #[b0, b1, b2, b3, b4, b5, b6, b7, b8] T (0, 0)) := by
  replace h := MReader.setCell_heap (j := 0) (u := b0) h
  rw [show (#[v0, v1, v2, v3, v4, v5, v6, v7, v8] : Array Value).setIfInBounds 0 b0 = #[b0, v1, v2, v3, v4, v5, v6, v7, v8] from rfl] at h
  replace h := MReader.setCell_heap (j := 1) (u := b1) h
  rw [show (#[b0, v1, v2, v3, v4, v5, v6, v7, v8] : Array Value).setIfInBounds 1 b1 = #[b0, b1, v2, v3, v4, v5, v6, v7, v8] from rfl] at h
  replace h := MReader.setCell_heap (j := 2) (u := b2) h
  rw [show (#[b0, b1, v2, v3, v4, v5, v6, v7, v8] : Array Value).setIfInBounds 2 b2 = #[b0, b1, b2, v3, v4, v5, v6, v7, v8] from rfl] at h
  replace h := MReader.setCell_heap (j := 3) (u := b3) h
  rw [show (#[b0, b1, b2, v3, v4, v5, v6, v7, v8] : Array Value).setIfInBounds 3 b3 = #[b0, b1, b2, b3, v4, v5, v6, v7, v8] from rfl] at h
  replace h := MReader.setCell_heap (j := 4) (u := b4) h
  rw [show (#[b0, b1, b2, b3, v4, v5, v6, v7, v8] : Array Value).setIfInBounds 4 b4 = #[b0, b1, b2, b3, b4, v5, v6, v7, v8] from rfl] at h
  replace h := MReader.setCell_heap (j := 5) (u := b5) h
  rw [show (#[b0, b1, b2, b3, b4, v5, v6, v7, v8] : Array Value).setIfInBounds 5 b5 = #[b0, b1, b2, b3, b4, b5, v6, v7, v8] from rfl] at h
  replace h := MReader.setCell_heap (j := 6) (u := b6) h
  rw [show (#[b0, b1, b2, b3, b4, b5, v6, v7, v8] : Array Value).setIfInBounds 6 b6 = #[b0, b1, b2, b3, b4, b5, b6, v7, v8] from rfl] at h
  replace h := MReader.setCell_heap (j := 7) (u := b7) h
  rw [show (#[b0, b1, b2, b3, b4, b5, b6, v7, v8] : Array Value).setIfInBounds 7 b7 = #[b0, b1, b2, b3, b4, b5, b6, b7, v8] from rfl] at h
  replace h := MReader.setCell_heap (j := 8) (u := b8) h
  rw [show (#[b0, b1, b2, b3, b4, b5, b6, b7, v8] : Array Value).setIfInBounds 8 b8 = #[b0, b1, b2, b3, b4, b5, b6, b7, b8] from rfl] at h
  exact h
theorem put9_below {w0 w : World} {g : Nat} (h : Below w0.heap.size w0 w) (hg : w0.heap.size ≤ g) (a0 a1 a2 a3 a4 a5 a6 a7 a8 : Value) :
    Below w0.heap.size w0 (((((((((w.setCell ⟨g, 0, none⟩ a0).setCell ⟨g, 1, none⟩ a1).setCell ⟨g, 2, none⟩ a2).setCell ⟨g, 3, none⟩ a3).setCell ⟨g, 4, none⟩ a4).setCell ⟨g, 5, none⟩ a5).setCell ⟨g, 6, none⟩ a6).setCell ⟨g, 7, none⟩ a7).setCell ⟨g, 8, none⟩ a8) :=
  below_set (below_set (below_set (below_set (below_set (below_set (below_set (below_set (below_set h hg) hg) hg) hg) hg) hg) hg) hg) hg
theorem ether_TakeArp.ok {bs : List (Nat × Obj)} {wb W : World} {g b : Nat} {l : List Int} (h : RT 67 wb bs g b l false W) {k : Nat} {width n : Int} (hg : octet_Get.f k l 0 width = some (n, true)) (h0 : 0 ≤ width) (h1 : width ≤ (l.length : Int)) :
  Calls Tryd.prog 33 #[.pointer (some ⟨g, 0, none⟩), .int .i64 width] W fun e w' => e = .returned (.int .u64 n) ∧ RT 67 wb bs g b (l.drop width.toNat) false w' :=
 (octet_Reader_Num.ok k g b l width n W h.rd hg h0 h1).mono fun _ _ ⟨he, hr, hgr⟩ => ⟨he, h.num hgr hr⟩
theorem ether_TakeArp.bad {bs : List (Nat × Obj)} {wb W : World} {g b : Nat} {l : List Int} {s ok : Bool} (h : RT 67 wb bs g b l s W) {k : Nat} {width n : Int} (hg : octet_Get.f k l 0 width = some (n, ok)) (hbad : ¬ (s = false ∧ ok = true)) :
  Calls Tryd.prog 33 #[.pointer (some ⟨g, 0, none⟩), .int .i64 width] W fun e w' => e = .returned (.int .u64 0) ∧ RT 67 wb bs g b [] true w' :=
 (octet_Reader_Num.bad k g b l s width n ok W h.rd hg (by cases s <;> cases ok <;> simp at hbad ⊢)).mono fun _ _ ⟨he, hr, hgr⟩ => ⟨he, h.num hgr hr⟩
set_option maxHeartbeats 4000000 in
set_option maxRecDepth 100000 in
theorem ether_TakeArp.main (k : Nat) (s : ByteArray) (x : List Int × Bool × Bool) (r : Int × Int × Bool × Int × Int × Int × Bool × Int × Int × Int) (w : World) (hg : ether_Glob w) (hbig : s.size ≤ 140737488355200) (hgo : ether_TakeArp.go k ether_TakeArp.tab [] (bytesOf s) false true = some x) (hfin : ether_TakeArp.fin x = some r) :
  Calls Tryd.prog 17 #[.string s] w fun e w' => e = .returned (ether_TakeArp.v r) ∧ Below w.heap.size w w' := by
 obtain ⟨L, hL⟩ : ∃ L, bytesOf s = L := ⟨_, rfl⟩
 have hlen : L.length = s.size := by rw [← hL, bytesOf_length]
 rw [hL] at hgo
 have HL := Aside0.mk hL; have HLN := Aside0.mk hlen
 have HGO := Aside0.mk hgo; have HFI := Aside0.mk hfin; have HGL := Aside0.mk hg
 clear hgo hfin hg hL hlen
 have hu29 := Tryd.underlying29
 have hu56 := Tryd.underlying56
 have hu54 := Tryd.underlying54
 have hu57 := Tryd.underlying57
 have hu27 := Tryd.underlying27
 have i0 : ∀ w, (Instr.index 57 (.agg #[.int .i64 2, .int .u64 1, .int .i64 2, .int .u64 2048, .int .i64 1, .int .u64 6, .int .i64 1, .int .u64 4, .int .i64 2, .int .u64 0, .int .i64 6, .int .u64 0, .int .i64 4, .int .u64 0, .int .i64 6, .int .u64 0, .int .i64 4, .int .u64 0]) (.int .i64 0)).run Tryd.prog w = .ok (.agg #[.int .i64 2, .int .u64 1]) w := fun _ => by kernel_rfl
 have i1 : ∀ w, (Instr.index 57 (.agg #[.int .i64 2, .int .u64 1, .int .i64 2, .int .u64 2048, .int .i64 1, .int .u64 6, .int .i64 1, .int .u64 4, .int .i64 2, .int .u64 0, .int .i64 6, .int .u64 0, .int .i64 4, .int .u64 0, .int .i64 6, .int .u64 0, .int .i64 4, .int .u64 0]) (.int .i64 1)).run Tryd.prog w = .ok (.agg #[.int .i64 2, .int .u64 2048]) w := fun _ => by kernel_rfl
 have i2 : ∀ w, (Instr.index 57 (.agg #[.int .i64 2, .int .u64 1, .int .i64 2, .int .u64 2048, .int .i64 1, .int .u64 6, .int .i64 1, .int .u64 4, .int .i64 2, .int .u64 0, .int .i64 6, .int .u64 0, .int .i64 4, .int .u64 0, .int .i64 6, .int .u64 0, .int .i64 4, .int .u64 0]) (.int .i64 2)).run Tryd.prog w = .ok (.agg #[.int .i64 1, .int .u64 6]) w := fun _ => by kernel_rfl
 have i3 : ∀ w, (Instr.index 57 (.agg #[.int .i64 2, .int .u64 1, .int .i64 2, .int .u64 2048, .int .i64 1, .int .u64 6, .int .i64 1, .int .u64 4, .int .i64 2, .int .u64 0, .int .i64 6, .int .u64 0, .int .i64 4, .int .u64 0, .int .i64 6, .int .u64 0, .int .i64 4, .int .u64 0]) (.int .i64 3)).run Tryd.prog w = .ok (.agg #[.int .i64 1, .int .u64 4]) w := fun _ => by kernel_rfl
 have i4 : ∀ w, (Instr.index 57 (.agg #[.int .i64 2, .int .u64 1, .int .i64 2, .int .u64 2048, .int .i64 1, .int .u64 6, .int .i64 1, .int .u64 4, .int .i64 2, .int .u64 0, .int .i64 6, .int .u64 0, .int .i64 4, .int .u64 0, .int .i64 6, .int .u64 0, .int .i64 4, .int .u64 0]) (.int .i64 4)).run Tryd.prog w = .ok (.agg #[.int .i64 2, .int .u64 0]) w := fun _ => by kernel_rfl
 have i5 : ∀ w, (Instr.index 57 (.agg #[.int .i64 2, .int .u64 1, .int .i64 2, .int .u64 2048, .int .i64 1, .int .u64 6, .int .i64 1, .int .u64 4, .int .i64 2, .int .u64 0, .int .i64 6, .int .u64 0, .int .i64 4, .int .u64 0, .int .i64 6, .int .u64 0, .int .i64 4, .int .u64 0]) (.int .i64 5)).run Tryd.prog w = .ok (.agg #[.int .i64 6, .int .u64 0]) w := fun _ => by kernel_rfl
 have i6 : ∀ w, (Instr.index 57 (.agg #[.int .i64 2, .int .u64 1, .int .i64 2, .int .u64 2048, .int .i64 1, .int .u64 6, .int .i64 1, .int .u64 4, .int .i64 2, .int .u64 0, .int .i64 6, .int .u64 0, .int .i64 4, .int .u64 0, .int .i64 6, .int .u64 0, .int .i64 4, .int .u64 0]) (.int .i64 6)).run Tryd.prog w = .ok (.agg #[.int .i64 4, .int .u64 0]) w := fun _ => by kernel_rfl
 have i7 : ∀ w, (Instr.index 57 (.agg #[.int .i64 2, .int .u64 1, .int .i64 2, .int .u64 2048, .int .i64 1, .int .u64 6, .int .i64 1, .int .u64 4, .int .i64 2, .int .u64 0, .int .i64 6, .int .u64 0, .int .i64 4, .int .u64 0, .int .i64 6, .int .u64 0, .int .i64 4, .int .u64 0]) (.int .i64 7)).run Tryd.prog w = .ok (.agg #[.int .i64 6, .int .u64 0]) w := fun _ => by kernel_rfl
 have i8 : ∀ w, (Instr.index 57 (.agg #[.int .i64 2, .int .u64 1, .int .i64 2, .int .u64 2048, .int .i64 1, .int .u64 6, .int .i64 1, .int .u64 4, .int .i64 2, .int .u64 0, .int .i64 6, .int .u64 0, .int .i64 4, .int .u64 0, .int .i64 6, .int .u64 0, .int .i64 4, .int .u64 0]) (.int .i64 8)).run Tryd.prog w = .ok (.agg #[.int .i64 4, .int .u64 0]) w := fun _ => by kernel_rfl
 obtain ⟨wb, hwb⟩ : ∃ wb, w.alloc (.cells #[.int .i64 0, .int .u64 0, .bool false, .int .u64 0, .int .u64 0, .int .u64 0, .bool false, .int .u64 0, .int .u64 0] 29) = wb := ⟨_, rfl⟩
 have HBW := Aside0.mk (show Below w.heap.size w wb by rw [← hwb]; exact below_alloc (Below.refl _ _) _)
 have HWS := Aside0.mk (show wb.heap.size = w.heap.size + 1 by rw [← hwb]; simp [go_sem])
 have HX := Aside0.mk (show wb.heap[w.heap.size]? = some (.cells #[.int .i64 0, .int .u64 0, .bool false, .int .u64 0, .int .u64 0, .int .u64 0, .bool false, .int .u64 0, .int .u64 0] 29 (0, 0)) by rw [← hwb]; exact heap_alloc_new _ _)
 have kb := fun s W => print_bytes (P := Tryd.prog) 9 50 5 Tryd.underlying9 Tryd.underlying50 Tryd.underlying5 s W
 go_enter Tryd.func17, Tryd.ntmps17
 go_wp2_with fail
 clear hwb
 have hC := MStr.C_bytes wb 5 s (by omega)
 rw [HL.out] at hC
 have hcall := octet_New.calls (some ⟨wb.heap.size, 0, none⟩) (grownCap wb s.size 0 5) L (Lib.bytesWorld wb 5 s) (by rw [HLN.out]; exact hC) (by rw [HLN.out]; exact grownCap_ge _ _ _ _) (by rw [HLN.out]; exact hbig)
 rw [HLN.out] at hcall
 clear hC kb
 refine hcall.mono ?_
 rintro e w2 ⟨g, bb, rfl, hrd, hg, hbb, hb⟩
 have hbw : Below wb.heap.size wb (Lib.bytesWorld wb 5 s) := bytes_below (Below.refl _ _) (Nat.le_refl _) _ _
 have hsz : (Lib.bytesWorld wb 5 s).heap.size = wb.heap.size + 1 := Lib.bytesWorld_size _ _ _
 have HR2 := Aside0.mk (show RT 67 wb [(w.heap.size, .cells #[.int .i64 0, .int .u64 0, .bool false, .int .u64 0, .int .u64 0, .int .u64 0, .bool false, .int .u64 0, .int .u64 0] 29 (0, 0))] g bb L false w2 from ⟨hrd, fun x hx => by
  obtain rfl := List.mem_singleton.1 hx
  exact ⟨MStr.block_below HX.out (below_step hbw hb), by have := HWS.out; simp only; omega, by have := HWS.out; simp only; omega⟩, below_step hbw hb, by omega⟩)
 clear hcall hrd hg hbb hb hbw hsz HX
 go_upto_region 4 with (fail)
 obtain ⟨W3, hW3⟩ : ∃ W3, w2.alloc (.cells #[.int .u64 0, .int .u64 0, .int .u64 0, .int .u64 0, .int .u64 0, .int .u64 0, .int .u64 0, .int .u64 0, .int .u64 0] 54) = W3 := ⟨_, rfl⟩
 rw [hW3]
 have HR3 := Aside0.mk (show RT 67 wb [(w2.heap.size, .cells #[.int .u64 0, .int .u64 0, .int .u64 0, .int .u64 0, .int .u64 0, .int .u64 0, .int .u64 0, .int .u64 0, .int .u64 0] 54 (0, 0)), (w.heap.size, .cells #[.int .i64 0, .int .u64 0, .bool false, .int .u64 0, .int .u64 0, .int .u64 0, .bool false, .int .u64 0, .int .u64 0] 29 (0, 0))] g bb L false W3 by rw [← hW3]; exact HR2.out.alloc _)
 have HGE := Aside0.mk (show wb.heap.size ≤ w2.heap.size from HR2.out.below.size)
 have HG3 := Aside0.mk (ether_Glob_below HGL.out (below_step HBW.out HR3.out.below))
 clear hW3 HR2 HGL
 obtain ⟨tt, fr, hrow⟩ := ether_Glob_row HG3.out
 go_wp2_with (refine wpList_load_row rfl 57 _ rfl 0 rfl tt _ fr _ hrow Tryd.underlying57 rfl (by kernel_rfl) ?_)
 clear hrow HG3
 go_loopg [6, 14] 9 (fun kq v6 v14 w' => ∃ (i : Nat) (acc l : List Int) (sh fit : Bool), v14 = .int .i64 (i : Int) ∧ v6 = .bool fit ∧ Aside0 (9 = i + kq) ∧ Aside0 (acc.length = i) ∧ Aside0 (ether_TakeArp.go k (ether_TakeArp.tab.drop i) acc l sh fit = some x) ∧ Aside0 (RT 67 wb [(w2.heap.size, .cells ((acc ++ List.replicate (9 - i) 0).map (Value.int .u64)).toArray 54 (0, 0)), (w.heap.size, .cells #[.int .i64 0, .int .u64 0, .bool false, .int .u64 0, .int .u64 0, .int .u64 0, .bool false, .int .u64 0, .int .u64 0] 29 (0, 0))] g bb l sh w'))
 case atStart => exact ⟨0, [], L, false, true, rfl, rfl, ⟨rfl⟩, ⟨rfl⟩, HGO, HR3⟩
 case round =>
  clear HGO HR3
  obtain ⟨i, acc, l, sh, fit, rfl, rfl, HI, HAL, HGO, HR⟩ := hrel
  have hi := HI.out
  have hal := HAL.out
  clear HAL
  cases gk with
  | zero =>
   obtain rfl : 9 = i := by omega
   clear hi HI i0 i1 i2 i3 i4 i5 i6 i7 i8
   rcases acc with _ | ⟨a0, acc⟩
   · simp at hal
   rcases acc with _ | ⟨a1, acc⟩
   · simp at hal
   rcases acc with _ | ⟨a2, acc⟩
   · simp at hal
   rcases acc with _ | ⟨a3, acc⟩
   · simp at hal
   rcases acc with _ | ⟨a4, acc⟩
   · simp at hal
   rcases acc with _ | ⟨a5, acc⟩
   · simp at hal
   rcases acc with _ | ⟨a6, acc⟩
   · simp at hal
   rcases acc with _ | ⟨a7, acc⟩
   · simp at hal
   rcases acc with _ | ⟨a8, acc⟩
   · simp at hal
   obtain rfl : acc = [] := List.eq_nil_of_length_eq_zero (by simpa using hal)
   clear hal
   have HRn := Aside0.mk (show RT 67 wb [(w2.heap.size, .cells #[.int .u64 a0, .int .u64 a1, .int .u64 a2, .int .u64 a3, .int .u64 a4, .int .u64 a5, .int .u64 a6, .int .u64 a7, .int .u64 a8] 54 (0, 0)), (w.heap.size, .cells #[.int .i64 0, .int .u64 0, .bool false, .int .u64 0, .int .u64 0, .int .u64 0, .bool false, .int .u64 0, .int .u64 0] 29 (0, 0))] g bb l sh wr from HR.out)
   have hx := HGO.out
   rw [show ether_TakeArp.tab.drop 9 = [] from rfl, ether_TakeArp.go] at hx
   obtain rfl := Option.some.inj hx
   clear hx HGO HR
   obtain ⟨n0, n1, n2, n3, n4, n5, n6, n7, n8⟩ := MBlk.c9 (HRn.out.keep _ (List.mem_cons_self ..)).1
   have hfi := HFI.out
   clear HFI
   go_upto_region 11 with (fail)
   obtain ⟨W9, hW9⟩ : ∃ W9, wr.alloc (.cells #[.int .i64 (wrap64 a4), .int .u64 a5, .bool false, .int .u64 0, .int .u64 a6, .int .u64 a7, .bool false, .int .u64 0, .int .u64 a8] 29) = W9 := ⟨_, rfl⟩
   rw [hW9]
   have HR9 := Aside0.mk (show RT 67 wb [(wr.heap.size, .cells #[.int .i64 (wrap64 a4), .int .u64 a5, .bool false, .int .u64 0, .int .u64 a6, .int .u64 a7, .bool false, .int .u64 0, .int .u64 a8] 29 (0, 0)), (w2.heap.size, .cells #[.int .u64 a0, .int .u64 a1, .int .u64 a2, .int .u64 a3, .int .u64 a4, .int .u64 a5, .int .u64 a6, .int .u64 a7, .int .u64 a8] 54 (0, 0)), (w.heap.size, .cells #[.int .i64 0, .int .u64 0, .bool false, .int .u64 0, .int .u64 0, .int .u64 0, .bool false, .int .u64 0, .int .u64 0] 29 (0, 0))] g bb l sh W9 by rw [← hW9]; exact HRn.out.alloc _)
   have HWR := Aside0.mk (show wb.heap.size ≤ wr.heap.size from HRn.out.below.size)
   clear hW9 n0 n1 n2 n3 n4 n5 n6 n7 n8 HRn
   go_wp2_with fail
   refine (octet_Reader_Short.calls g bb l sh _ HR9.out.rd).mono ?_
   rintro e w10 ⟨rfl, rfl⟩
   have HK := Aside0.mk (HR9.out.keep _ (List.mem_cons_of_mem _ (List.mem_cons_of_mem _ (List.mem_cons_self ..)))).1
   obtain ⟨y0, y1, y2, y3, y4, y5, y6, y7, y8⟩ := MBlk.c9 HK.out
   obtain ⟨z0, z1, z2, z3, z4, z5, z6, z7, z8⟩ := MBlk.f9 HK.out
   obtain ⟨m0, m1, m2, m3, m4, m5, m6, m7, m8⟩ := MBlk.c9 (HR9.out.keep _ (List.mem_cons_self ..)).1
   have HBE := Aside0.mk (below_step HBW.out HR9.out.below)
   cases sh with
   | true =>
    unfold ether_TakeArp.fin at hfi
    rw [if_pos rfl] at hfi
    obtain rfl := Option.some.inj hfi
    clear hfi
    go_wp2_with fail
    refine bodyPost_ret (results_ct rfl _ _ _ 29 #[.int .i64 0, .int .u64 0, .bool false, .int .u64 0, .int .u64 0, .int .u64 0, .bool false, .int .u64 0, .int .u64 0] (0, 0) _ rfl (put9 HK.out _ _ _ _ _ _ _ _ _) Tryd.underlying29 rfl (by kernel_rfl)) rfl ⟨rfl, put9_below HBE.out (Nat.le_refl _) _ _ _ _ _ _ _ _ _⟩
   | false =>
    cases fit with
    | false =>
     unfold ether_TakeArp.fin at hfi
     rw [if_neg (by simp), if_pos rfl] at hfi
     obtain rfl := Option.some.inj hfi
     clear hfi
     go_wp2_with fail
     refine bodyPost_ret (results_ct rfl _ _ _ 29 #[.int .i64 0, .int .u64 0, .bool false, .int .u64 0, .int .u64 0, .int .u64 0, .bool false, .int .u64 0, .int .u64 0] (0, 0) _ rfl (put9 HK.out _ _ _ _ _ _ _ _ _) Tryd.underlying29 rfl (by kernel_rfl)) rfl ⟨rfl, put9_below HBE.out (Nat.le_refl _) _ _ _ _ _ _ _ _ _⟩
    | true =>
     unfold ether_TakeArp.fin at hfi
     rw [if_neg (by simp), if_neg (by simp)] at hfi
     obtain ⟨y, hy, hfi⟩ := Option.bind_eq_some_iff.1 hfi
     have HY := Aside0.mk (show ether_isArp.f (wrap64 a4) a5 false 0 a6 a7 false 0 a8 = some y from hy)
     clear hy
     go_wp2_with fail
     refine (ether_isArp.calls _ _ _ _ _ _ _ _ _ _ _ HY.out).mono ?_
     rintro e w11 ⟨rfl, hb⟩
     have HR11 := Aside0.mk (HR9.out.more hb)
     clear HR9 HK y0 y1 y2 y3 y4 y5 y6 y7 y8 z0 z1 z2 z3 z4 z5 z6 z7 z8 m0 m1 m2 m3 m4 m5 m6 m7 m8 HBE
     have HK := Aside0.mk (HR11.out.keep _ (List.mem_cons_of_mem _ (List.mem_cons_of_mem _ (List.mem_cons_self ..)))).1
     obtain ⟨y0, y1, y2, y3, y4, y5, y6, y7, y8⟩ := MBlk.c9 HK.out
     obtain ⟨z0, z1, z2, z3, z4, z5, z6, z7, z8⟩ := MBlk.f9 HK.out
     obtain ⟨m0, m1, m2, m3, m4, m5, m6, m7, m8⟩ := MBlk.c9 (HR11.out.keep _ (List.mem_cons_self ..)).1
     have HBE := Aside0.mk (below_step HBW.out HR11.out.below)
     clear hb
     cases y with
     | false =>
      rw [if_neg (by decide)] at hfi
      obtain rfl := Option.some.inj hfi
      clear hfi
      go_wp2_with fail
      refine bodyPost_ret (results_ct rfl _ _ _ 29 #[.int .i64 0, .int .u64 0, .bool false, .int .u64 0, .int .u64 0, .int .u64 0, .bool false, .int .u64 0, .int .u64 0] (0, 0) _ rfl (put9 HK.out _ _ _ _ _ _ _ _ _) Tryd.underlying29 rfl (by kernel_rfl)) rfl ⟨rfl, put9_below HBE.out (Nat.le_refl _) _ _ _ _ _ _ _ _ _⟩
     | true =>
      rw [if_pos rfl] at hfi
      obtain rfl := Option.some.inj hfi
      clear hfi
      go_wp2_with fail
      refine bodyPost_ret (results_ct rfl _ _ _ 29 #[.int .i64 (wrap64 a4), .int .u64 a5, .bool false, .int .u64 0, .int .u64 a6, .int .u64 a7, .bool false, .int .u64 0, .int .u64 a8] (0, 0) _ rfl (put9 HK.out _ _ _ _ _ _ _ _ _) Tryd.underlying29 rfl (by kernel_rfl)) rfl ⟨rfl, put9_below HBE.out (Nat.le_refl _) _ _ _ _ _ _ _ _ _⟩
  | succ d =>
   rcases (show i = 0 ∨ i = 1 ∨ i = 2 ∨ i = 3 ∨ i = 4 ∨ i = 5 ∨ i = 6 ∨ i = 7 ∨ i = 8 by omega) with rfl | rfl | rfl | rfl | rfl | rfl | rfl | rfl | rfl
   ·
     clear hi
     obtain rfl : acc = [] := List.eq_nil_of_length_eq_zero (by simpa using hal)
     clear hal
     have HRn := Aside0.mk (show RT 67 wb [(w2.heap.size, .cells #[.int .u64 0, .int .u64 0, .int .u64 0, .int .u64 0, .int .u64 0, .int .u64 0, .int .u64 0, .int .u64 0, .int .u64 0] 54 (0, 0)), (w.heap.size, .cells #[.int .i64 0, .int .u64 0, .bool false, .int .u64 0, .int .u64 0, .int .u64 0, .bool false, .int .u64 0, .int .u64 0] 29 (0, 0))] g bb l sh wr from HR.out)
     have h := HGO.out
     rw [show ether_TakeArp.tab.drop 0 = (2, 1) :: ether_TakeArp.tab.drop 1 from rfl, ether_TakeArp.go] at h
     obtain ⟨⟨n, ok⟩, hn, h⟩ := Option.bind_eq_some_iff.1 h
     have HNN := Aside0.mk (show octet_Get.f k l 0 2 = some (n, ok) from hn)
     clear hn HGO HR
     have HWR := Aside0.mk (show wb.heap.size ≤ wr.heap.size from HRn.out.below.size)
     have HNE := Aside0.mk (show wr.heap.size ≠ w2.heap.size by have h_ := (HRn.out.keep _ (List.mem_cons_self ..)).1; have := (Array.getElem?_eq_some_iff.1 h_).1; simp only at this; omega)
     go_upto_region 7 with (fail)
     obtain ⟨W5, hW5⟩ : ∃ W5, wr.alloc (.cells #[.int .i64 2, .int .u64 1] 56) = W5 := ⟨_, rfl⟩
     rw [hW5]
     have HR5 := Aside0.mk (show RT 67 wb [(wr.heap.size, .cells #[.int .i64 2, .int .u64 1] 56 (0, 0)), (w2.heap.size, .cells #[.int .u64 0, .int .u64 0, .int .u64 0, .int .u64 0, .int .u64 0, .int .u64 0, .int .u64 0, .int .u64 0, .int .u64 0] 54 (0, 0)), (w.heap.size, .cells #[.int .i64 0, .int .u64 0, .bool false, .int .u64 0, .int .u64 0, .int .u64 0, .bool false, .int .u64 0, .int .u64 0] 29 (0, 0))] g bb l sh W5 by rw [← hW5]; exact HRn.out.alloc _)
     clear hW5 HRn
     obtain ⟨f0, f1⟩ := MBlk.c2 (HR5.out.keep _ (List.mem_cons_self ..)).1
     have zn := HR5.out.free 0 (List.mem_cons_of_mem _ (List.mem_cons_self ..))
     by_cases hok : sh = false ∧ ok = true
     · obtain ⟨rfl, rfl⟩ := hok
       rw [if_pos ⟨rfl, rfl⟩] at h
       split at h
       case isFalse => cases h
       rename_i hle
       have HLE := Aside0.mk hle; have H := Aside0.mk h
       clear hle h
       go_wp2_with fail
       refine Calls.mono (ether_TakeArp.ok HR5.out HNN.out (by decide) HLE.out) ?_
       rintro e w6 ⟨rfl, hrs⟩
       have HR6 := Aside0.mk (show RT 67 wb [(wr.heap.size, .cells #[.int .i64 2, .int .u64 1] 56 (0, 0)), (w2.heap.size, .cells #[.int .u64 0, .int .u64 0, .int .u64 0, .int .u64 0, .int .u64 0, .int .u64 0, .int .u64 0, .int .u64 0, .int .u64 0] 54 (0, 0)), (w.heap.size, .cells #[.int .i64 0, .int .u64 0, .bool false, .int .u64 0, .int .u64 0, .int .u64 0, .bool false, .int .u64 0, .int .u64 0] 29 (0, 0))] g bb (l.drop 2) false w6 from hrs)
       have zn6 := HR6.out.free 0 (List.mem_cons_of_mem _ (List.mem_cons_self ..))
       have yn6 := HR6.out.cell (j := 0) (List.mem_cons_of_mem _ (List.mem_cons_self ..)) rfl
       clear hrs HR5 f0 f1 zn
       go_upto_region 8 with (fail)
       obtain ⟨W7, hW7⟩ : ∃ W7, w6.setCell ⟨w2.heap.size, 0, none⟩ (.int .u64 n) = W7 := ⟨_, rfl⟩
       rw [hW7]
       have HR7 := Aside0.mk (show RT 67 wb [(w2.heap.size, .cells #[.int .u64 n, .int .u64 0, .int .u64 0, .int .u64 0, .int .u64 0, .int .u64 0, .int .u64 0, .int .u64 0, .int .u64 0] 54 (0, 0)), (wr.heap.size, .cells #[.int .i64 2, .int .u64 1] 56 (0, 0)), (w.heap.size, .cells #[.int .i64 0, .int .u64 0, .bool false, .int .u64 0, .int .u64 0, .int .u64 0, .bool false, .int .u64 0, .int .u64 0] 29 (0, 0))] g bb (l.drop 2) false W7 by
        rw [← hW7]
        refine RT.set (cs := #[.int .u64 0, .int .u64 0, .int .u64 0, .int .u64 0, .int .u64 0, .int .u64 0, .int .u64 0, .int .u64 0, .int .u64 0]) (HR6.out.sub (bs2 := [(w2.heap.size, .cells #[.int .u64 0, .int .u64 0, .int .u64 0, .int .u64 0, .int .u64 0, .int .u64 0, .int .u64 0, .int .u64 0, .int .u64 0] 54 (0, 0)), (wr.heap.size, .cells #[.int .i64 2, .int .u64 1] 56 (0, 0)), (w.heap.size, .cells #[.int .i64 0, .int .u64 0, .bool false, .int .u64 0, .int .u64 0, .int .u64 0, .bool false, .int .u64 0, .int .u64 0] 29 (0, 0))]) (by intro q hq; simp only [List.mem_cons, List.not_mem_nil, or_false] at hq ⊢; rcases hq with rfl | rfl | rfl <;> simp)) HGE.out (by
         intro q hq
         simp only [List.mem_cons, List.not_mem_nil, or_false] at hq
         rcases hq with rfl | rfl
         · exact HNE.out
         · have := HGE.out; have := HWS.out; simp only; omega) 0 (.int .u64 n))
       clear hW7 HR6 yn6 zn6
       obtain ⟨f0, f1⟩ := MBlk.c2 (HR7.out.keep _ (List.mem_cons_of_mem _ (List.mem_cons_self ..))).1
       have yn := HR7.out.cell (j := 0) (List.mem_cons_self ..) rfl
       have yn' : W7.cell? ⟨w2.heap.size, 0, none⟩ = some (.int .u64 n) := yn
       clear yn
       cases fit with
       | false =>
        have e : (false && (((1 : Int) == 0) || (n == 1))) = false := by simp
        replace H := Aside0.mk (show ether_TakeArp.go k (ether_TakeArp.tab.drop 1) [n] (l.drop 2) false false = some x by have h_ := H.out; rw [e] at h_; exact h_)
        go_region
        all_goals go_wp2_with fail
        go_roundg d
        case measure => omega
        case rel => exact ⟨1, [n], _, _, false, rfl, rfl, ⟨by have := HI.out; omega⟩, ⟨rfl⟩, H, ⟨((HR7.out.more (below_drew1 (Below.refl _ _))).sub (bs2 := [(w2.heap.size, .cells #[.int .u64 n, .int .u64 0, .int .u64 0, .int .u64 0, .int .u64 0, .int .u64 0, .int .u64 0, .int .u64 0, .int .u64 0] 54 (0, 0)), (w.heap.size, .cells #[.int .i64 0, .int .u64 0, .bool false, .int .u64 0, .int .u64 0, .int .u64 0, .bool false, .int .u64 0, .int .u64 0] 29 (0, 0))]) (by intro q hq; simp only [List.mem_cons, List.not_mem_nil, or_false] at hq ⊢; rcases hq with rfl | rfl <;> simp))⟩⟩
       | true =>
        by_cases hm : n = 1
        · have hmb : (n == 1) = true := by simp [hm]
          have e : (true && (((1 : Int) == 0) || (n == 1))) = true := by simp [hm]
          replace H := Aside0.mk (show ether_TakeArp.go k (ether_TakeArp.tab.drop 1) [n] (l.drop 2) false true = some x by have h_ := H.out; rw [e] at h_; exact h_)
          go_region
          all_goals go_wp2_with fail
          go_roundg d
          case measure => omega
          case rel => exact ⟨1, [n], _, _, true, rfl, rfl, ⟨by have := HI.out; omega⟩, ⟨rfl⟩, H, ⟨((HR7.out.more (below_drew1 (Below.refl _ _))).sub (bs2 := [(w2.heap.size, .cells #[.int .u64 n, .int .u64 0, .int .u64 0, .int .u64 0, .int .u64 0, .int .u64 0, .int .u64 0, .int .u64 0, .int .u64 0] 54 (0, 0)), (w.heap.size, .cells #[.int .i64 0, .int .u64 0, .bool false, .int .u64 0, .int .u64 0, .int .u64 0, .bool false, .int .u64 0, .int .u64 0] 29 (0, 0))]) (by intro q hq; simp only [List.mem_cons, List.not_mem_nil, or_false] at hq ⊢; rcases hq with rfl | rfl <;> simp))⟩⟩
        · have hmb : (n == 1) = false := by simp [hm]
          have e : (true && (((1 : Int) == 0) || (n == 1))) = false := by simp [hm]
          replace H := Aside0.mk (show ether_TakeArp.go k (ether_TakeArp.tab.drop 1) [n] (l.drop 2) false false = some x by have h_ := H.out; rw [e] at h_; exact h_)
          go_region
          all_goals go_wp2_with fail
          go_roundg d
          case measure => omega
          case rel => exact ⟨1, [n], _, _, false, rfl, rfl, ⟨by have := HI.out; omega⟩, ⟨rfl⟩, H, ⟨((HR7.out.more (below_drew1 (Below.refl _ _))).sub (bs2 := [(w2.heap.size, .cells #[.int .u64 n, .int .u64 0, .int .u64 0, .int .u64 0, .int .u64 0, .int .u64 0, .int .u64 0, .int .u64 0, .int .u64 0] 54 (0, 0)), (w.heap.size, .cells #[.int .i64 0, .int .u64 0, .bool false, .int .u64 0, .int .u64 0, .int .u64 0, .bool false, .int .u64 0, .int .u64 0] 29 (0, 0))]) (by intro q hq; simp only [List.mem_cons, List.not_mem_nil, or_false] at hq ⊢; rcases hq with rfl | rfl <;> simp))⟩⟩
     · rw [if_neg hok] at h
       have H := Aside0.mk h; have HOK := Aside0.mk hok
       clear h hok
       go_wp2_with fail
       refine Calls.mono (ether_TakeArp.bad HR5.out HNN.out HOK.out) ?_
       rintro e w6 ⟨rfl, hrs⟩
       have HR6 := Aside0.mk (show RT 67 wb [(wr.heap.size, .cells #[.int .i64 2, .int .u64 1] 56 (0, 0)), (w2.heap.size, .cells #[.int .u64 0, .int .u64 0, .int .u64 0, .int .u64 0, .int .u64 0, .int .u64 0, .int .u64 0, .int .u64 0, .int .u64 0] 54 (0, 0)), (w.heap.size, .cells #[.int .i64 0, .int .u64 0, .bool false, .int .u64 0, .int .u64 0, .int .u64 0, .bool false, .int .u64 0, .int .u64 0] 29 (0, 0))] g bb [] true w6 from hrs)
       have zn6 := HR6.out.free 0 (List.mem_cons_of_mem _ (List.mem_cons_self ..))
       have yn6 := HR6.out.cell (j := 0) (List.mem_cons_of_mem _ (List.mem_cons_self ..)) rfl
       clear hrs HR5 f0 f1 zn
       go_upto_region 8 with (fail)
       obtain ⟨W7, hW7⟩ : ∃ W7, w6.setCell ⟨w2.heap.size, 0, none⟩ (.int .u64 0) = W7 := ⟨_, rfl⟩
       rw [hW7]
       have HR7 := Aside0.mk (show RT 67 wb [(w2.heap.size, .cells #[.int .u64 0, .int .u64 0, .int .u64 0, .int .u64 0, .int .u64 0, .int .u64 0, .int .u64 0, .int .u64 0, .int .u64 0] 54 (0, 0)), (wr.heap.size, .cells #[.int .i64 2, .int .u64 1] 56 (0, 0)), (w.heap.size, .cells #[.int .i64 0, .int .u64 0, .bool false, .int .u64 0, .int .u64 0, .int .u64 0, .bool false, .int .u64 0, .int .u64 0] 29 (0, 0))] g bb [] true W7 by
        rw [← hW7]
        refine RT.set (cs := #[.int .u64 0, .int .u64 0, .int .u64 0, .int .u64 0, .int .u64 0, .int .u64 0, .int .u64 0, .int .u64 0, .int .u64 0]) (HR6.out.sub (bs2 := [(w2.heap.size, .cells #[.int .u64 0, .int .u64 0, .int .u64 0, .int .u64 0, .int .u64 0, .int .u64 0, .int .u64 0, .int .u64 0, .int .u64 0] 54 (0, 0)), (wr.heap.size, .cells #[.int .i64 2, .int .u64 1] 56 (0, 0)), (w.heap.size, .cells #[.int .i64 0, .int .u64 0, .bool false, .int .u64 0, .int .u64 0, .int .u64 0, .bool false, .int .u64 0, .int .u64 0] 29 (0, 0))]) (by intro q hq; simp only [List.mem_cons, List.not_mem_nil, or_false] at hq ⊢; rcases hq with rfl | rfl | rfl <;> simp)) HGE.out (by
         intro q hq
         simp only [List.mem_cons, List.not_mem_nil, or_false] at hq
         rcases hq with rfl | rfl
         · exact HNE.out
         · have := HGE.out; have := HWS.out; simp only; omega) 0 (.int .u64 0))
       clear hW7 HR6 yn6 zn6
       obtain ⟨f0, f1⟩ := MBlk.c2 (HR7.out.keep _ (List.mem_cons_of_mem _ (List.mem_cons_self ..))).1
       have yn := HR7.out.cell (j := 0) (List.mem_cons_self ..) rfl
       have yn' : W7.cell? ⟨w2.heap.size, 0, none⟩ = some (.int .u64 0) := yn
       clear yn
       cases fit with
       | false =>
        have e : (false && (((1 : Int) == 0) || ((0 : Int) == 1))) = false := by simp
        replace H := Aside0.mk (show ether_TakeArp.go k (ether_TakeArp.tab.drop 1) [0] [] true false = some x by have h_ := H.out; rw [e] at h_; exact h_)
        go_region
        all_goals go_wp2_with fail
        go_roundg d
        case measure => omega
        case rel => exact ⟨1, [0], _, _, false, rfl, rfl, ⟨by have := HI.out; omega⟩, ⟨rfl⟩, H, ⟨((HR7.out.more (below_drew1 (Below.refl _ _))).sub (bs2 := [(w2.heap.size, .cells #[.int .u64 0, .int .u64 0, .int .u64 0, .int .u64 0, .int .u64 0, .int .u64 0, .int .u64 0, .int .u64 0, .int .u64 0] 54 (0, 0)), (w.heap.size, .cells #[.int .i64 0, .int .u64 0, .bool false, .int .u64 0, .int .u64 0, .int .u64 0, .bool false, .int .u64 0, .int .u64 0] 29 (0, 0))]) (by intro q hq; simp only [List.mem_cons, List.not_mem_nil, or_false] at hq ⊢; rcases hq with rfl | rfl <;> simp))⟩⟩
       | true =>
        have e : (true && (((1 : Int) == 0) || ((0 : Int) == 1))) = false := by decide
        replace H := Aside0.mk (show ether_TakeArp.go k (ether_TakeArp.tab.drop 1) [0] [] true false = some x by have h_ := H.out; rw [e] at h_; exact h_)
        go_region
        all_goals go_wp2_with fail
        go_roundg d
        case measure => omega
        case rel => exact ⟨1, [0], _, _, false, rfl, rfl, ⟨by have := HI.out; omega⟩, ⟨rfl⟩, H, ⟨((HR7.out.more (below_drew1 (Below.refl _ _))).sub (bs2 := [(w2.heap.size, .cells #[.int .u64 0, .int .u64 0, .int .u64 0, .int .u64 0, .int .u64 0, .int .u64 0, .int .u64 0, .int .u64 0, .int .u64 0] 54 (0, 0)), (w.heap.size, .cells #[.int .i64 0, .int .u64 0, .bool false, .int .u64 0, .int .u64 0, .int .u64 0, .bool false, .int .u64 0, .int .u64 0] 29 (0, 0))]) (by intro q hq; simp only [List.mem_cons, List.not_mem_nil, or_false] at hq ⊢; rcases hq with rfl | rfl <;> simp))⟩⟩
   ·
     clear hi
     rcases acc with _ | ⟨a0, acc⟩
     · simp at hal
     obtain rfl : acc = [] := List.eq_nil_of_length_eq_zero (by simpa using hal)
     clear hal
     have HRn := Aside0.mk (show RT 67 wb [(w2.heap.size, .cells #[.int .u64 a0, .int .u64 0, .int .u64 0, .int .u64 0, .int .u64 0, .int .u64 0, .int .u64 0, .int .u64 0, .int .u64 0] 54 (0, 0)), (w.heap.size, .cells #[.int .i64 0, .int .u64 0, .bool false, .int .u64 0, .int .u64 0, .int .u64 0, .bool false, .int .u64 0, .int .u64 0] 29 (0, 0))] g bb l sh wr from HR.out)
     have h := HGO.out
     rw [show ether_TakeArp.tab.drop 1 = (2, 2048) :: ether_TakeArp.tab.drop 2 from rfl, ether_TakeArp.go] at h
     obtain ⟨⟨n, ok⟩, hn, h⟩ := Option.bind_eq_some_iff.1 h
     have HNN := Aside0.mk (show octet_Get.f k l 0 2 = some (n, ok) from hn)
     clear hn HGO HR
     have HWR := Aside0.mk (show wb.heap.size ≤ wr.heap.size from HRn.out.below.size)
     have HNE := Aside0.mk (show wr.heap.size ≠ w2.heap.size by have h_ := (HRn.out.keep _ (List.mem_cons_self ..)).1; have := (Array.getElem?_eq_some_iff.1 h_).1; simp only at this; omega)
     go_upto_region 7 with (fail)
     obtain ⟨W5, hW5⟩ : ∃ W5, wr.alloc (.cells #[.int .i64 2, .int .u64 2048] 56) = W5 := ⟨_, rfl⟩
     rw [hW5]
     have HR5 := Aside0.mk (show RT 67 wb [(wr.heap.size, .cells #[.int .i64 2, .int .u64 2048] 56 (0, 0)), (w2.heap.size, .cells #[.int .u64 a0, .int .u64 0, .int .u64 0, .int .u64 0, .int .u64 0, .int .u64 0, .int .u64 0, .int .u64 0, .int .u64 0] 54 (0, 0)), (w.heap.size, .cells #[.int .i64 0, .int .u64 0, .bool false, .int .u64 0, .int .u64 0, .int .u64 0, .bool false, .int .u64 0, .int .u64 0] 29 (0, 0))] g bb l sh W5 by rw [← hW5]; exact HRn.out.alloc _)
     clear hW5 HRn
     obtain ⟨f0, f1⟩ := MBlk.c2 (HR5.out.keep _ (List.mem_cons_self ..)).1
     have zn := HR5.out.free 1 (List.mem_cons_of_mem _ (List.mem_cons_self ..))
     by_cases hok : sh = false ∧ ok = true
     · obtain ⟨rfl, rfl⟩ := hok
       rw [if_pos ⟨rfl, rfl⟩] at h
       split at h
       case isFalse => cases h
       rename_i hle
       have HLE := Aside0.mk hle; have H := Aside0.mk h
       clear hle h
       go_wp2_with fail
       refine Calls.mono (ether_TakeArp.ok HR5.out HNN.out (by decide) HLE.out) ?_
       rintro e w6 ⟨rfl, hrs⟩
       have HR6 := Aside0.mk (show RT 67 wb [(wr.heap.size, .cells #[.int .i64 2, .int .u64 2048] 56 (0, 0)), (w2.heap.size, .cells #[.int .u64 a0, .int .u64 0, .int .u64 0, .int .u64 0, .int .u64 0, .int .u64 0, .int .u64 0, .int .u64 0, .int .u64 0] 54 (0, 0)), (w.heap.size, .cells #[.int .i64 0, .int .u64 0, .bool false, .int .u64 0, .int .u64 0, .int .u64 0, .bool false, .int .u64 0, .int .u64 0] 29 (0, 0))] g bb (l.drop 2) false w6 from hrs)
       have zn6 := HR6.out.free 1 (List.mem_cons_of_mem _ (List.mem_cons_self ..))
       have yn6 := HR6.out.cell (j := 1) (List.mem_cons_of_mem _ (List.mem_cons_self ..)) rfl
       clear hrs HR5 f0 f1 zn
       go_upto_region 8 with (fail)
       obtain ⟨W7, hW7⟩ : ∃ W7, w6.setCell ⟨w2.heap.size, 1, none⟩ (.int .u64 n) = W7 := ⟨_, rfl⟩
       rw [hW7]
       have HR7 := Aside0.mk (show RT 67 wb [(w2.heap.size, .cells #[.int .u64 a0, .int .u64 n, .int .u64 0, .int .u64 0, .int .u64 0, .int .u64 0, .int .u64 0, .int .u64 0, .int .u64 0] 54 (0, 0)), (wr.heap.size, .cells #[.int .i64 2, .int .u64 2048] 56 (0, 0)), (w.heap.size, .cells #[.int .i64 0, .int .u64 0, .bool false, .int .u64 0, .int .u64 0, .int .u64 0, .bool false, .int .u64 0, .int .u64 0] 29 (0, 0))] g bb (l.drop 2) false W7 by
        rw [← hW7]
        refine RT.set (cs := #[.int .u64 a0, .int .u64 0, .int .u64 0, .int .u64 0, .int .u64 0, .int .u64 0, .int .u64 0, .int .u64 0, .int .u64 0]) (HR6.out.sub (bs2 := [(w2.heap.size, .cells #[.int .u64 a0, .int .u64 0, .int .u64 0, .int .u64 0, .int .u64 0, .int .u64 0, .int .u64 0, .int .u64 0, .int .u64 0] 54 (0, 0)), (wr.heap.size, .cells #[.int .i64 2, .int .u64 2048] 56 (0, 0)), (w.heap.size, .cells #[.int .i64 0, .int .u64 0, .bool false, .int .u64 0, .int .u64 0, .int .u64 0, .bool false, .int .u64 0, .int .u64 0] 29 (0, 0))]) (by intro q hq; simp only [List.mem_cons, List.not_mem_nil, or_false] at hq ⊢; rcases hq with rfl | rfl | rfl <;> simp)) HGE.out (by
         intro q hq
         simp only [List.mem_cons, List.not_mem_nil, or_false] at hq
         rcases hq with rfl | rfl
         · exact HNE.out
         · have := HGE.out; have := HWS.out; simp only; omega) 1 (.int .u64 n))
       clear hW7 HR6 yn6 zn6
       obtain ⟨f0, f1⟩ := MBlk.c2 (HR7.out.keep _ (List.mem_cons_of_mem _ (List.mem_cons_self ..))).1
       have yn := HR7.out.cell (j := 1) (List.mem_cons_self ..) rfl
       have yn' : W7.cell? ⟨w2.heap.size, 1, none⟩ = some (.int .u64 n) := yn
       clear yn
       cases fit with
       | false =>
        have e : (false && (((2048 : Int) == 0) || (n == 2048))) = false := by simp
        replace H := Aside0.mk (show ether_TakeArp.go k (ether_TakeArp.tab.drop 2) [a0, n] (l.drop 2) false false = some x by have h_ := H.out; rw [e] at h_; exact h_)
        go_region
        all_goals go_wp2_with fail
        go_roundg d
        case measure => omega
        case rel => exact ⟨2, [a0, n], _, _, false, rfl, rfl, ⟨by have := HI.out; omega⟩, ⟨rfl⟩, H, ⟨((HR7.out.more (below_drew1 (Below.refl _ _))).sub (bs2 := [(w2.heap.size, .cells #[.int .u64 a0, .int .u64 n, .int .u64 0, .int .u64 0, .int .u64 0, .int .u64 0, .int .u64 0, .int .u64 0, .int .u64 0] 54 (0, 0)), (w.heap.size, .cells #[.int .i64 0, .int .u64 0, .bool false, .int .u64 0, .int .u64 0, .int .u64 0, .bool false, .int .u64 0, .int .u64 0] 29 (0, 0))]) (by intro q hq; simp only [List.mem_cons, List.not_mem_nil, or_false] at hq ⊢; rcases hq with rfl | rfl <;> simp))⟩⟩
       | true =>
        by_cases hm : n = 2048
        · have hmb : (n == 2048) = true := by simp [hm]
          have e : (true && (((2048 : Int) == 0) || (n == 2048))) = true := by simp [hm]
          replace H := Aside0.mk (show ether_TakeArp.go k (ether_TakeArp.tab.drop 2) [a0, n] (l.drop 2) false true = some x by have h_ := H.out; rw [e] at h_; exact h_)
          go_region
          all_goals go_wp2_with fail
          go_roundg d
          case measure => omega
          case rel => exact ⟨2, [a0, n], _, _, true, rfl, rfl, ⟨by have := HI.out; omega⟩, ⟨rfl⟩, H, ⟨((HR7.out.more (below_drew1 (Below.refl _ _))).sub (bs2 := [(w2.heap.size, .cells #[.int .u64 a0, .int .u64 n, .int .u64 0, .int .u64 0, .int .u64 0, .int .u64 0, .int .u64 0, .int .u64 0, .int .u64 0] 54 (0, 0)), (w.heap.size, .cells #[.int .i64 0, .int .u64 0, .bool false, .int .u64 0, .int .u64 0, .int .u64 0, .bool false, .int .u64 0, .int .u64 0] 29 (0, 0))]) (by intro q hq; simp only [List.mem_cons, List.not_mem_nil, or_false] at hq ⊢; rcases hq with rfl | rfl <;> simp))⟩⟩
        · have hmb : (n == 2048) = false := by simp [hm]
          have e : (true && (((2048 : Int) == 0) || (n == 2048))) = false := by simp [hm]
          replace H := Aside0.mk (show ether_TakeArp.go k (ether_TakeArp.tab.drop 2) [a0, n] (l.drop 2) false false = some x by have h_ := H.out; rw [e] at h_; exact h_)
          go_region
          all_goals go_wp2_with fail
          go_roundg d
          case measure => omega
          case rel => exact ⟨2, [a0, n], _, _, false, rfl, rfl, ⟨by have := HI.out; omega⟩, ⟨rfl⟩, H, ⟨((HR7.out.more (below_drew1 (Below.refl _ _))).sub (bs2 := [(w2.heap.size, .cells #[.int .u64 a0, .int .u64 n, .int .u64 0, .int .u64 0, .int .u64 0, .int .u64 0, .int .u64 0, .int .u64 0, .int .u64 0] 54 (0, 0)), (w.heap.size, .cells #[.int .i64 0, .int .u64 0, .bool false, .int .u64 0, .int .u64 0, .int .u64 0, .bool false, .int .u64 0, .int .u64 0] 29 (0, 0))]) (by intro q hq; simp only [List.mem_cons, List.not_mem_nil, or_false] at hq ⊢; rcases hq with rfl | rfl <;> simp))⟩⟩
     · rw [if_neg hok] at h
       have H := Aside0.mk h; have HOK := Aside0.mk hok
       clear h hok
       go_wp2_with fail
       refine Calls.mono (ether_TakeArp.bad HR5.out HNN.out HOK.out) ?_
       rintro e w6 ⟨rfl, hrs⟩
       have HR6 := Aside0.mk (show RT 67 wb [(wr.heap.size, .cells #[.int .i64 2, .int .u64 2048] 56 (0, 0)), (w2.heap.size, .cells #[.int .u64 a0, .int .u64 0, .int .u64 0, .int .u64 0, .int .u64 0, .int .u64 0, .int .u64 0, .int .u64 0, .int .u64 0] 54 (0, 0)), (w.heap.size, .cells #[.int .i64 0, .int .u64 0, .bool false, .int .u64 0, .int .u64 0, .int .u64 0, .bool false, .int .u64 0, .int .u64 0] 29 (0, 0))] g bb [] true w6 from hrs)
       have zn6 := HR6.out.free 1 (List.mem_cons_of_mem _ (List.mem_cons_self ..))
       have yn6 := HR6.out.cell (j := 1) (List.mem_cons_of_mem _ (List.mem_cons_self ..)) rfl
       clear hrs HR5 f0 f1 zn
       go_upto_region 8 with (fail)
       obtain ⟨W7, hW7⟩ : ∃ W7, w6.setCell ⟨w2.heap.size, 1, none⟩ (.int .u64 0) = W7 := ⟨_, rfl⟩
       rw [hW7]
       have HR7 := Aside0.mk (show RT 67 wb [(w2.heap.size, .cells #[.int .u64 a0, .int .u64 0, .int .u64 0, .int .u64 0, .int .u64 0, .int .u64 0, .int .u64 0, .int .u64 0, .int .u64 0] 54 (0, 0)), (wr.heap.size, .cells #[.int .i64 2, .int .u64 2048] 56 (0, 0)), (w.heap.size, .cells #[.int .i64 0, .int .u64 0, .bool false, .int .u64 0, .int .u64 0, .int .u64 0, .bool false, .int .u64 0, .int .u64 0] 29 (0, 0))] g bb [] true W7 by
        rw [← hW7]
        refine RT.set (cs := #[.int .u64 a0, .int .u64 0, .int .u64 0, .int .u64 0, .int .u64 0, .int .u64 0, .int .u64 0, .int .u64 0, .int .u64 0]) (HR6.out.sub (bs2 := [(w2.heap.size, .cells #[.int .u64 a0, .int .u64 0, .int .u64 0, .int .u64 0, .int .u64 0, .int .u64 0, .int .u64 0, .int .u64 0, .int .u64 0] 54 (0, 0)), (wr.heap.size, .cells #[.int .i64 2, .int .u64 2048] 56 (0, 0)), (w.heap.size, .cells #[.int .i64 0, .int .u64 0, .bool false, .int .u64 0, .int .u64 0, .int .u64 0, .bool false, .int .u64 0, .int .u64 0] 29 (0, 0))]) (by intro q hq; simp only [List.mem_cons, List.not_mem_nil, or_false] at hq ⊢; rcases hq with rfl | rfl | rfl <;> simp)) HGE.out (by
         intro q hq
         simp only [List.mem_cons, List.not_mem_nil, or_false] at hq
         rcases hq with rfl | rfl
         · exact HNE.out
         · have := HGE.out; have := HWS.out; simp only; omega) 1 (.int .u64 0))
       clear hW7 HR6 yn6 zn6
       obtain ⟨f0, f1⟩ := MBlk.c2 (HR7.out.keep _ (List.mem_cons_of_mem _ (List.mem_cons_self ..))).1
       have yn := HR7.out.cell (j := 1) (List.mem_cons_self ..) rfl
       have yn' : W7.cell? ⟨w2.heap.size, 1, none⟩ = some (.int .u64 0) := yn
       clear yn
       cases fit with
       | false =>
        have e : (false && (((2048 : Int) == 0) || ((0 : Int) == 2048))) = false := by simp
        replace H := Aside0.mk (show ether_TakeArp.go k (ether_TakeArp.tab.drop 2) [a0, 0] [] true false = some x by have h_ := H.out; rw [e] at h_; exact h_)
        go_region
        all_goals go_wp2_with fail
        go_roundg d
        case measure => omega
        case rel => exact ⟨2, [a0, 0], _, _, false, rfl, rfl, ⟨by have := HI.out; omega⟩, ⟨rfl⟩, H, ⟨((HR7.out.more (below_drew1 (Below.refl _ _))).sub (bs2 := [(w2.heap.size, .cells #[.int .u64 a0, .int .u64 0, .int .u64 0, .int .u64 0, .int .u64 0, .int .u64 0, .int .u64 0, .int .u64 0, .int .u64 0] 54 (0, 0)), (w.heap.size, .cells #[.int .i64 0, .int .u64 0, .bool false, .int .u64 0, .int .u64 0, .int .u64 0, .bool false, .int .u64 0, .int .u64 0] 29 (0, 0))]) (by intro q hq; simp only [List.mem_cons, List.not_mem_nil, or_false] at hq ⊢; rcases hq with rfl | rfl <;> simp))⟩⟩
       | true =>
        have e : (true && (((2048 : Int) == 0) || ((0 : Int) == 2048))) = false := by decide
        replace H := Aside0.mk (show ether_TakeArp.go k (ether_TakeArp.tab.drop 2) [a0, 0] [] true false = some x by have h_ := H.out; rw [e] at h_; exact h_)
        go_region
        all_goals go_wp2_with fail
        go_roundg d
        case measure => omega
        case rel => exact ⟨2, [a0, 0], _, _, false, rfl, rfl, ⟨by have := HI.out; omega⟩, ⟨rfl⟩, H, ⟨((HR7.out.more (below_drew1 (Below.refl _ _))).sub (bs2 := [(w2.heap.size, .cells #[.int .u64 a0, .int .u64 0, .int .u64 0, .int .u64 0, .int .u64 0, .int .u64 0, .int .u64 0, .int .u64 0, .int .u64 0] 54 (0, 0)), (w.heap.size, .cells #[.int .i64 0, .int .u64 0, .bool false, .int .u64 0, .int .u64 0, .int .u64 0, .bool false, .int .u64 0, .int .u64 0] 29 (0, 0))]) (by intro q hq; simp only [List.mem_cons, List.not_mem_nil, or_false] at hq ⊢; rcases hq with rfl | rfl <;> simp))⟩⟩
   ·
     clear hi
     rcases acc with _ | ⟨a0, acc⟩
     · simp at hal
     rcases acc with _ | ⟨a1, acc⟩
     · simp at hal
     obtain rfl : acc = [] := List.eq_nil_of_length_eq_zero (by simpa using hal)
     clear hal
     have HRn := Aside0.mk (show RT 67 wb [(w2.heap.size, .cells #[.int .u64 a0, .int .u64 a1, .int .u64 0, .int .u64 0, .int .u64 0, .int .u64 0, .int .u64 0, .int .u64 0, .int .u64 0] 54 (0, 0)), (w.heap.size, .cells #[.int .i64 0, .int .u64 0, .bool false, .int .u64 0, .int .u64 0, .int .u64 0, .bool false, .int .u64 0, .int .u64 0] 29 (0, 0))] g bb l sh wr from HR.out)
     have h := HGO.out
     rw [show ether_TakeArp.tab.drop 2 = (1, 6) :: ether_TakeArp.tab.drop 3 from rfl, ether_TakeArp.go] at h
     obtain ⟨⟨n, ok⟩, hn, h⟩ := Option.bind_eq_some_iff.1 h
     have HNN := Aside0.mk (show octet_Get.f k l 0 1 = some (n, ok) from hn)
     clear hn HGO HR
     have HWR := Aside0.mk (show wb.heap.size ≤ wr.heap.size from HRn.out.below.size)
     have HNE := Aside0.mk (show wr.heap.size ≠ w2.heap.size by have h_ := (HRn.out.keep _ (List.mem_cons_self ..)).1; have := (Array.getElem?_eq_some_iff.1 h_).1; simp only at this; omega)
     go_upto_region 7 with (fail)
     obtain ⟨W5, hW5⟩ : ∃ W5, wr.alloc (.cells #[.int .i64 1, .int .u64 6] 56) = W5 := ⟨_, rfl⟩
     rw [hW5]
     have HR5 := Aside0.mk (show RT 67 wb [(wr.heap.size, .cells #[.int .i64 1, .int .u64 6] 56 (0, 0)), (w2.heap.size, .cells #[.int .u64 a0, .int .u64 a1, .int .u64 0, .int .u64 0, .int .u64 0, .int .u64 0, .int .u64 0, .int .u64 0, .int .u64 0] 54 (0, 0)), (w.heap.size, .cells #[.int .i64 0, .int .u64 0, .bool false, .int .u64 0, .int .u64 0, .int .u64 0, .bool false, .int .u64 0, .int .u64 0] 29 (0, 0))] g bb l sh W5 by rw [← hW5]; exact HRn.out.alloc _)
     clear hW5 HRn
     obtain ⟨f0, f1⟩ := MBlk.c2 (HR5.out.keep _ (List.mem_cons_self ..)).1
     have zn := HR5.out.free 2 (List.mem_cons_of_mem _ (List.mem_cons_self ..))
     by_cases hok : sh = false ∧ ok = true
     · obtain ⟨rfl, rfl⟩ := hok
       rw [if_pos ⟨rfl, rfl⟩] at h
       split at h
       case isFalse => cases h
       rename_i hle
       have HLE := Aside0.mk hle; have H := Aside0.mk h
       clear hle h
       go_wp2_with fail
       refine Calls.mono (ether_TakeArp.ok HR5.out HNN.out (by decide) HLE.out) ?_
       rintro e w6 ⟨rfl, hrs⟩
       have HR6 := Aside0.mk (show RT 67 wb [(wr.heap.size, .cells #[.int .i64 1, .int .u64 6] 56 (0, 0)), (w2.heap.size, .cells #[.int .u64 a0, .int .u64 a1, .int .u64 0, .int .u64 0, .int .u64 0, .int .u64 0, .int .u64 0, .int .u64 0, .int .u64 0] 54 (0, 0)), (w.heap.size, .cells #[.int .i64 0, .int .u64 0, .bool false, .int .u64 0, .int .u64 0, .int .u64 0, .bool false, .int .u64 0, .int .u64 0] 29 (0, 0))] g bb (l.drop 1) false w6 from hrs)
       have zn6 := HR6.out.free 2 (List.mem_cons_of_mem _ (List.mem_cons_self ..))
       have yn6 := HR6.out.cell (j := 2) (List.mem_cons_of_mem _ (List.mem_cons_self ..)) rfl
       clear hrs HR5 f0 f1 zn
       go_upto_region 8 with (fail)
       obtain ⟨W7, hW7⟩ : ∃ W7, w6.setCell ⟨w2.heap.size, 2, none⟩ (.int .u64 n) = W7 := ⟨_, rfl⟩
       rw [hW7]
       have HR7 := Aside0.mk (show RT 67 wb [(w2.heap.size, .cells #[.int .u64 a0, .int .u64 a1, .int .u64 n, .int .u64 0, .int .u64 0, .int .u64 0, .int .u64 0, .int .u64 0, .int .u64 0] 54 (0, 0)), (wr.heap.size, .cells #[.int .i64 1, .int .u64 6] 56 (0, 0)), (w.heap.size, .cells #[.int .i64 0, .int .u64 0, .bool false, .int .u64 0, .int .u64 0, .int .u64 0, .bool false, .int .u64 0, .int .u64 0] 29 (0, 0))] g bb (l.drop 1) false W7 by
        rw [← hW7]
        refine RT.set (cs := #[.int .u64 a0, .int .u64 a1, .int .u64 0, .int .u64 0, .int .u64 0, .int .u64 0, .int .u64 0, .int .u64 0, .int .u64 0]) (HR6.out.sub (bs2 := [(w2.heap.size, .cells #[.int .u64 a0, .int .u64 a1, .int .u64 0, .int .u64 0, .int .u64 0, .int .u64 0, .int .u64 0, .int .u64 0, .int .u64 0] 54 (0, 0)), (wr.heap.size, .cells #[.int .i64 1, .int .u64 6] 56 (0, 0)), (w.heap.size, .cells #[.int .i64 0, .int .u64 0, .bool false, .int .u64 0, .int .u64 0, .int .u64 0, .bool false, .int .u64 0, .int .u64 0] 29 (0, 0))]) (by intro q hq; simp only [List.mem_cons, List.not_mem_nil, or_false] at hq ⊢; rcases hq with rfl | rfl | rfl <;> simp)) HGE.out (by
         intro q hq
         simp only [List.mem_cons, List.not_mem_nil, or_false] at hq
         rcases hq with rfl | rfl
         · exact HNE.out
         · have := HGE.out; have := HWS.out; simp only; omega) 2 (.int .u64 n))
       clear hW7 HR6 yn6 zn6
       obtain ⟨f0, f1⟩ := MBlk.c2 (HR7.out.keep _ (List.mem_cons_of_mem _ (List.mem_cons_self ..))).1
       have yn := HR7.out.cell (j := 2) (List.mem_cons_self ..) rfl
       have yn' : W7.cell? ⟨w2.heap.size, 2, none⟩ = some (.int .u64 n) := yn
       clear yn
       cases fit with
       | false =>
        have e : (false && (((6 : Int) == 0) || (n == 6))) = false := by simp
        replace H := Aside0.mk (show ether_TakeArp.go k (ether_TakeArp.tab.drop 3) [a0, a1, n] (l.drop 1) false false = some x by have h_ := H.out; rw [e] at h_; exact h_)
        go_region
        all_goals go_wp2_with fail
        go_roundg d
        case measure => omega
        case rel => exact ⟨3, [a0, a1, n], _, _, false, rfl, rfl, ⟨by have := HI.out; omega⟩, ⟨rfl⟩, H, ⟨((HR7.out.more (below_drew1 (Below.refl _ _))).sub (bs2 := [(w2.heap.size, .cells #[.int .u64 a0, .int .u64 a1, .int .u64 n, .int .u64 0, .int .u64 0, .int .u64 0, .int .u64 0, .int .u64 0, .int .u64 0] 54 (0, 0)), (w.heap.size, .cells #[.int .i64 0, .int .u64 0, .bool false, .int .u64 0, .int .u64 0, .int .u64 0, .bool false, .int .u64 0, .int .u64 0] 29 (0, 0))]) (by intro q hq; simp only [List.mem_cons, List.not_mem_nil, or_false] at hq ⊢; rcases hq with rfl | rfl <;> simp))⟩⟩
       | true =>
        by_cases hm : n = 6
        · have hmb : (n == 6) = true := by simp [hm]
          have e : (true && (((6 : Int) == 0) || (n == 6))) = true := by simp [hm]
          replace H := Aside0.mk (show ether_TakeArp.go k (ether_TakeArp.tab.drop 3) [a0, a1, n] (l.drop 1) false true = some x by have h_ := H.out; rw [e] at h_; exact h_)
          go_region
          all_goals go_wp2_with fail
          go_roundg d
          case measure => omega
          case rel => exact ⟨3, [a0, a1, n], _, _, true, rfl, rfl, ⟨by have := HI.out; omega⟩, ⟨rfl⟩, H, ⟨((HR7.out.more (below_drew1 (Below.refl _ _))).sub (bs2 := [(w2.heap.size, .cells #[.int .u64 a0, .int .u64 a1, .int .u64 n, .int .u64 0, .int .u64 0, .int .u64 0, .int .u64 0, .int .u64 0, .int .u64 0] 54 (0, 0)), (w.heap.size, .cells #[.int .i64 0, .int .u64 0, .bool false, .int .u64 0, .int .u64 0, .int .u64 0, .bool false, .int .u64 0, .int .u64 0] 29 (0, 0))]) (by intro q hq; simp only [List.mem_cons, List.not_mem_nil, or_false] at hq ⊢; rcases hq with rfl | rfl <;> simp))⟩⟩
        · have hmb : (n == 6) = false := by simp [hm]
          have e : (true && (((6 : Int) == 0) || (n == 6))) = false := by simp [hm]
          replace H := Aside0.mk (show ether_TakeArp.go k (ether_TakeArp.tab.drop 3) [a0, a1, n] (l.drop 1) false false = some x by have h_ := H.out; rw [e] at h_; exact h_)
          go_region
          all_goals go_wp2_with fail
          go_roundg d
          case measure => omega
          case rel => exact ⟨3, [a0, a1, n], _, _, false, rfl, rfl, ⟨by have := HI.out; omega⟩, ⟨rfl⟩, H, ⟨((HR7.out.more (below_drew1 (Below.refl _ _))).sub (bs2 := [(w2.heap.size, .cells #[.int .u64 a0, .int .u64 a1, .int .u64 n, .int .u64 0, .int .u64 0, .int .u64 0, .int .u64 0, .int .u64 0, .int .u64 0] 54 (0, 0)), (w.heap.size, .cells #[.int .i64 0, .int .u64 0, .bool false, .int .u64 0, .int .u64 0, .int .u64 0, .bool false, .int .u64 0, .int .u64 0] 29 (0, 0))]) (by intro q hq; simp only [List.mem_cons, List.not_mem_nil, or_false] at hq ⊢; rcases hq with rfl | rfl <;> simp))⟩⟩
     · rw [if_neg hok] at h
       have H := Aside0.mk h; have HOK := Aside0.mk hok
       clear h hok
       go_wp2_with fail
       refine Calls.mono (ether_TakeArp.bad HR5.out HNN.out HOK.out) ?_
       rintro e w6 ⟨rfl, hrs⟩
       have HR6 := Aside0.mk (show RT 67 wb [(wr.heap.size, .cells #[.int .i64 1, .int .u64 6] 56 (0, 0)), (w2.heap.size, .cells #[.int .u64 a0, .int .u64 a1, .int .u64 0, .int .u64 0, .int .u64 0, .int .u64 0, .int .u64 0, .int .u64 0, .int .u64 0] 54 (0, 0)), (w.heap.size, .cells #[.int .i64 0, .int .u64 0, .bool false, .int .u64 0, .int .u64 0, .int .u64 0, .bool false, .int .u64 0, .int .u64 0] 29 (0, 0))] g bb [] true w6 from hrs)
       have zn6 := HR6.out.free 2 (List.mem_cons_of_mem _ (List.mem_cons_self ..))
       have yn6 := HR6.out.cell (j := 2) (List.mem_cons_of_mem _ (List.mem_cons_self ..)) rfl
       clear hrs HR5 f0 f1 zn
       go_upto_region 8 with (fail)
       obtain ⟨W7, hW7⟩ : ∃ W7, w6.setCell ⟨w2.heap.size, 2, none⟩ (.int .u64 0) = W7 := ⟨_, rfl⟩
       rw [hW7]
       have HR7 := Aside0.mk (show RT 67 wb [(w2.heap.size, .cells #[.int .u64 a0, .int .u64 a1, .int .u64 0, .int .u64 0, .int .u64 0, .int .u64 0, .int .u64 0, .int .u64 0, .int .u64 0] 54 (0, 0)), (wr.heap.size, .cells #[.int .i64 1, .int .u64 6] 56 (0, 0)), (w.heap.size, .cells #[.int .i64 0, .int .u64 0, .bool false, .int .u64 0, .int .u64 0, .int .u64 0, .bool false, .int .u64 0, .int .u64 0] 29 (0, 0))] g bb [] true W7 by
        rw [← hW7]
        refine RT.set (cs := #[.int .u64 a0, .int .u64 a1, .int .u64 0, .int .u64 0, .int .u64 0, .int .u64 0, .int .u64 0, .int .u64 0, .int .u64 0]) (HR6.out.sub (bs2 := [(w2.heap.size, .cells #[.int .u64 a0, .int .u64 a1, .int .u64 0, .int .u64 0, .int .u64 0, .int .u64 0, .int .u64 0, .int .u64 0, .int .u64 0] 54 (0, 0)), (wr.heap.size, .cells #[.int .i64 1, .int .u64 6] 56 (0, 0)), (w.heap.size, .cells #[.int .i64 0, .int .u64 0, .bool false, .int .u64 0, .int .u64 0, .int .u64 0, .bool false, .int .u64 0, .int .u64 0] 29 (0, 0))]) (by intro q hq; simp only [List.mem_cons, List.not_mem_nil, or_false] at hq ⊢; rcases hq with rfl | rfl | rfl <;> simp)) HGE.out (by
         intro q hq
         simp only [List.mem_cons, List.not_mem_nil, or_false] at hq
         rcases hq with rfl | rfl
         · exact HNE.out
         · have := HGE.out; have := HWS.out; simp only; omega) 2 (.int .u64 0))
       clear hW7 HR6 yn6 zn6
       obtain ⟨f0, f1⟩ := MBlk.c2 (HR7.out.keep _ (List.mem_cons_of_mem _ (List.mem_cons_self ..))).1
       have yn := HR7.out.cell (j := 2) (List.mem_cons_self ..) rfl
       have yn' : W7.cell? ⟨w2.heap.size, 2, none⟩ = some (.int .u64 0) := yn
       clear yn
       cases fit with
       | false =>
        have e : (false && (((6 : Int) == 0) || ((0 : Int) == 6))) = false := by simp
        replace H := Aside0.mk (show ether_TakeArp.go k (ether_TakeArp.tab.drop 3) [a0, a1, 0] [] true false = some x by have h_ := H.out; rw [e] at h_; exact h_)
        go_region
        all_goals go_wp2_with fail
        go_roundg d
        case measure => omega
        case rel => exact ⟨3, [a0, a1, 0], _, _, false, rfl, rfl, ⟨by have := HI.out; omega⟩, ⟨rfl⟩, H, ⟨((HR7.out.more (below_drew1 (Below.refl _ _))).sub (bs2 := [(w2.heap.size, .cells #[.int .u64 a0, .int .u64 a1, .int .u64 0, .int .u64 0, .int .u64 0, .int .u64 0, .int .u64 0, .int .u64 0, .int .u64 0] 54 (0, 0)), (w.heap.size, .cells #[.int .i64 0, .int .u64 0, .bool false, .int .u64 0, .int .u64 0, .int .u64 0, .bool false, .int .u64 0, .int .u64 0] 29 (0, 0))]) (by intro q hq; simp only [List.mem_cons, List.not_mem_nil, or_false] at hq ⊢; rcases hq with rfl | rfl <;> simp))⟩⟩
       | true =>
        have e : (true && (((6 : Int) == 0) || ((0 : Int) == 6))) = false := by decide
        replace H := Aside0.mk (show ether_TakeArp.go k (ether_TakeArp.tab.drop 3) [a0, a1, 0] [] true false = some x by have h_ := H.out; rw [e] at h_; exact h_)
        go_region
        all_goals go_wp2_with fail
        go_roundg d
        case measure => omega
        case rel => exact ⟨3, [a0, a1, 0], _, _, false, rfl, rfl, ⟨by have := HI.out; omega⟩, ⟨rfl⟩, H, ⟨((HR7.out.more (below_drew1 (Below.refl _ _))).sub (bs2 := [(w2.heap.size, .cells #[.int .u64 a0, .int .u64 a1, .int .u64 0, .int .u64 0, .int .u64 0, .int .u64 0, .int .u64 0, .int .u64 0, .int .u64 0] 54 (0, 0)), (w.heap.size, .cells #[.int .i64 0, .int .u64 0, .bool false, .int .u64 0, .int .u64 0, .int .u64 0, .bool false, .int .u64 0, .int .u64 0] 29 (0, 0))]) (by intro q hq; simp only [List.mem_cons, List.not_mem_nil, or_false] at hq ⊢; rcases hq with rfl | rfl <;> simp))⟩⟩
   ·
     clear hi
     rcases acc with _ | ⟨a0, acc⟩
     · simp at hal
     rcases acc with _ | ⟨a1, acc⟩
     · simp at hal
     rcases acc with _ | ⟨a2, acc⟩
     · simp at hal
     obtain rfl : acc = [] := List.eq_nil_of_length_eq_zero (by simpa using hal)
     clear hal
     have HRn := Aside0.mk (show RT 67 wb [(w2.heap.size, .cells #[.int .u64 a0, .int .u64 a1, .int .u64 a2, .int .u64 0, .int .u64 0, .int .u64 0, .int .u64 0, .int .u64 0, .int .u64 0] 54 (0, 0)), (w.heap.size, .cells #[.int .i64 0, .int .u64 0, .bool false, .int .u64 0, .int .u64 0, .int .u64 0, .bool false, .int .u64 0, .int .u64 0] 29 (0, 0))] g bb l sh wr from HR.out)
     have h := HGO.out
     rw [show ether_TakeArp.tab.drop 3 = (1, 4) :: ether_TakeArp.tab.drop 4 from rfl, ether_TakeArp.go] at h
     obtain ⟨⟨n, ok⟩, hn, h⟩ := Option.bind_eq_some_iff.1 h
     have HNN := Aside0.mk (show octet_Get.f k l 0 1 = some (n, ok) from hn)
     clear hn HGO HR
     have HWR := Aside0.mk (show wb.heap.size ≤ wr.heap.size from HRn.out.below.size)
     have HNE := Aside0.mk (show wr.heap.size ≠ w2.heap.size by have h_ := (HRn.out.keep _ (List.mem_cons_self ..)).1; have := (Array.getElem?_eq_some_iff.1 h_).1; simp only at this; omega)
     go_upto_region 7 with (fail)
     obtain ⟨W5, hW5⟩ : ∃ W5, wr.alloc (.cells #[.int .i64 1, .int .u64 4] 56) = W5 := ⟨_, rfl⟩
     rw [hW5]
     have HR5 := Aside0.mk (show RT 67 wb [(wr.heap.size, .cells #[.int .i64 1, .int .u64 4] 56 (0, 0)), (w2.heap.size, .cells #[.int .u64 a0, .int .u64 a1, .int .u64 a2, .int .u64 0, .int .u64 0, .int .u64 0, .int .u64 0, .int .u64 0, .int .u64 0] 54 (0, 0)), (w.heap.size, .cells #[.int .i64 0, .int .u64 0, .bool false, .int .u64 0, .int .u64 0, .int .u64 0, .bool false, .int .u64 0, .int .u64 0] 29 (0, 0))] g bb l sh W5 by rw [← hW5]; exact HRn.out.alloc _)
     clear hW5 HRn
     obtain ⟨f0, f1⟩ := MBlk.c2 (HR5.out.keep _ (List.mem_cons_self ..)).1
     have zn := HR5.out.free 3 (List.mem_cons_of_mem _ (List.mem_cons_self ..))
     by_cases hok : sh = false ∧ ok = true
     · obtain ⟨rfl, rfl⟩ := hok
       rw [if_pos ⟨rfl, rfl⟩] at h
       split at h
       case isFalse => cases h
       rename_i hle
       have HLE := Aside0.mk hle; have H := Aside0.mk h
       clear hle h
       go_wp2_with fail
       refine Calls.mono (ether_TakeArp.ok HR5.out HNN.out (by decide) HLE.out) ?_
       rintro e w6 ⟨rfl, hrs⟩
       have HR6 := Aside0.mk (show RT 67 wb [(wr.heap.size, .cells #[.int .i64 1, .int .u64 4] 56 (0, 0)), (w2.heap.size, .cells #[.int .u64 a0, .int .u64 a1, .int .u64 a2, .int .u64 0, .int .u64 0, .int .u64 0, .int .u64 0, .int .u64 0, .int .u64 0] 54 (0, 0)), (w.heap.size, .cells #[.int .i64 0, .int .u64 0, .bool false, .int .u64 0, .int .u64 0, .int .u64 0, .bool false, .int .u64 0, .int .u64 0] 29 (0, 0))] g bb (l.drop 1) false w6 from hrs)
       have zn6 := HR6.out.free 3 (List.mem_cons_of_mem _ (List.mem_cons_self ..))
       have yn6 := HR6.out.cell (j := 3) (List.mem_cons_of_mem _ (List.mem_cons_self ..)) rfl
       clear hrs HR5 f0 f1 zn
       go_upto_region 8 with (fail)
       obtain ⟨W7, hW7⟩ : ∃ W7, w6.setCell ⟨w2.heap.size, 3, none⟩ (.int .u64 n) = W7 := ⟨_, rfl⟩
       rw [hW7]
       have HR7 := Aside0.mk (show RT 67 wb [(w2.heap.size, .cells #[.int .u64 a0, .int .u64 a1, .int .u64 a2, .int .u64 n, .int .u64 0, .int .u64 0, .int .u64 0, .int .u64 0, .int .u64 0] 54 (0, 0)), (wr.heap.size, .cells #[.int .i64 1, .int .u64 4] 56 (0, 0)), (w.heap.size, .cells #[.int .i64 0, .int .u64 0, .bool false, .int .u64 0, .int .u64 0, .int .u64 0, .bool false, .int .u64 0, .int .u64 0] 29 (0, 0))] g bb (l.drop 1) false W7 by
        rw [← hW7]
        refine RT.set (cs := #[.int .u64 a0, .int .u64 a1, .int .u64 a2, .int .u64 0, .int .u64 0, .int .u64 0, .int .u64 0, .int .u64 0, .int .u64 0]) (HR6.out.sub (bs2 := [(w2.heap.size, .cells #[.int .u64 a0, .int .u64 a1, .int .u64 a2, .int .u64 0, .int .u64 0, .int .u64 0, .int .u64 0, .int .u64 0, .int .u64 0] 54 (0, 0)), (wr.heap.size, .cells #[.int .i64 1, .int .u64 4] 56 (0, 0)), (w.heap.size, .cells #[.int .i64 0, .int .u64 0, .bool false, .int .u64 0, .int .u64 0, .int .u64 0, .bool false, .int .u64 0, .int .u64 0] 29 (0, 0))]) (by intro q hq; simp only [List.mem_cons, List.not_mem_nil, or_false] at hq ⊢; rcases hq with rfl | rfl | rfl <;> simp)) HGE.out (by
         intro q hq
         simp only [List.mem_cons, List.not_mem_nil, or_false] at hq
         rcases hq with rfl | rfl
         · exact HNE.out
         · have := HGE.out; have := HWS.out; simp only; omega) 3 (.int .u64 n))
       clear hW7 HR6 yn6 zn6
       obtain ⟨f0, f1⟩ := MBlk.c2 (HR7.out.keep _ (List.mem_cons_of_mem _ (List.mem_cons_self ..))).1
       have yn := HR7.out.cell (j := 3) (List.mem_cons_self ..) rfl
       have yn' : W7.cell? ⟨w2.heap.size, 3, none⟩ = some (.int .u64 n) := yn
       clear yn
       cases fit with
       | false =>
        have e : (false && (((4 : Int) == 0) || (n == 4))) = false := by simp
        replace H := Aside0.mk (show ether_TakeArp.go k (ether_TakeArp.tab.drop 4) [a0, a1, a2, n] (l.drop 1) false false = some x by have h_ := H.out; rw [e] at h_; exact h_)
        go_region
        all_goals go_wp2_with fail
        go_roundg d
        case measure => omega
        case rel => exact ⟨4, [a0, a1, a2, n], _, _, false, rfl, rfl, ⟨by have := HI.out; omega⟩, ⟨rfl⟩, H, ⟨((HR7.out.more (below_drew1 (Below.refl _ _))).sub (bs2 := [(w2.heap.size, .cells #[.int .u64 a0, .int .u64 a1, .int .u64 a2, .int .u64 n, .int .u64 0, .int .u64 0, .int .u64 0, .int .u64 0, .int .u64 0] 54 (0, 0)), (w.heap.size, .cells #[.int .i64 0, .int .u64 0, .bool false, .int .u64 0, .int .u64 0, .int .u64 0, .bool false, .int .u64 0, .int .u64 0] 29 (0, 0))]) (by intro q hq; simp only [List.mem_cons, List.not_mem_nil, or_false] at hq ⊢; rcases hq with rfl | rfl <;> simp))⟩⟩
       | true =>
        by_cases hm : n = 4
        · have hmb : (n == 4) = true := by simp [hm]
          have e : (true && (((4 : Int) == 0) || (n == 4))) = true := by simp [hm]
          replace H := Aside0.mk (show ether_TakeArp.go k (ether_TakeArp.tab.drop 4) [a0, a1, a2, n] (l.drop 1) false true = some x by have h_ := H.out; rw [e] at h_; exact h_)
          go_region
          all_goals go_wp2_with fail
          go_roundg d
          case measure => omega
          case rel => exact ⟨4, [a0, a1, a2, n], _, _, true, rfl, rfl, ⟨by have := HI.out; omega⟩, ⟨rfl⟩, H, ⟨((HR7.out.more (below_drew1 (Below.refl _ _))).sub (bs2 := [(w2.heap.size, .cells #[.int .u64 a0, .int .u64 a1, .int .u64 a2, .int .u64 n, .int .u64 0, .int .u64 0, .int .u64 0, .int .u64 0, .int .u64 0] 54 (0, 0)), (w.heap.size, .cells #[.int .i64 0, .int .u64 0, .bool false, .int .u64 0, .int .u64 0, .int .u64 0, .bool false, .int .u64 0, .int .u64 0] 29 (0, 0))]) (by intro q hq; simp only [List.mem_cons, List.not_mem_nil, or_false] at hq ⊢; rcases hq with rfl | rfl <;> simp))⟩⟩
        · have hmb : (n == 4) = false := by simp [hm]
          have e : (true && (((4 : Int) == 0) || (n == 4))) = false := by simp [hm]
          replace H := Aside0.mk (show ether_TakeArp.go k (ether_TakeArp.tab.drop 4) [a0, a1, a2, n] (l.drop 1) false false = some x by have h_ := H.out; rw [e] at h_; exact h_)
          go_region
          all_goals go_wp2_with fail
          go_roundg d
          case measure => omega
          case rel => exact ⟨4, [a0, a1, a2, n], _, _, false, rfl, rfl, ⟨by have := HI.out; omega⟩, ⟨rfl⟩, H, ⟨((HR7.out.more (below_drew1 (Below.refl _ _))).sub (bs2 := [(w2.heap.size, .cells #[.int .u64 a0, .int .u64 a1, .int .u64 a2, .int .u64 n, .int .u64 0, .int .u64 0, .int .u64 0, .int .u64 0, .int .u64 0] 54 (0, 0)), (w.heap.size, .cells #[.int .i64 0, .int .u64 0, .bool false, .int .u64 0, .int .u64 0, .int .u64 0, .bool false, .int .u64 0, .int .u64 0] 29 (0, 0))]) (by intro q hq; simp only [List.mem_cons, List.not_mem_nil, or_false] at hq ⊢; rcases hq with rfl | rfl <;> simp))⟩⟩
     · rw [if_neg hok] at h
       have H := Aside0.mk h; have HOK := Aside0.mk hok
       clear h hok
       go_wp2_with fail
       refine Calls.mono (ether_TakeArp.bad HR5.out HNN.out HOK.out) ?_
       rintro e w6 ⟨rfl, hrs⟩
       have HR6 := Aside0.mk (show RT 67 wb [(wr.heap.size, .cells #[.int .i64 1, .int .u64 4] 56 (0, 0)), (w2.heap.size, .cells #[.int .u64 a0, .int .u64 a1, .int .u64 a2, .int .u64 0, .int .u64 0, .int .u64 0, .int .u64 0, .int .u64 0, .int .u64 0] 54 (0, 0)), (w.heap.size, .cells #[.int .i64 0, .int .u64 0, .bool false, .int .u64 0, .int .u64 0, .int .u64 0, .bool false, .int .u64 0, .int .u64 0] 29 (0, 0))] g bb [] true w6 from hrs)
       have zn6 := HR6.out.free 3 (List.mem_cons_of_mem _ (List.mem_cons_self ..))
       have yn6 := HR6.out.cell (j := 3) (List.mem_cons_of_mem _ (List.mem_cons_self ..)) rfl
       clear hrs HR5 f0 f1 zn
       go_upto_region 8 with (fail)
       obtain ⟨W7, hW7⟩ : ∃ W7, w6.setCell ⟨w2.heap.size, 3, none⟩ (.int .u64 0) = W7 := ⟨_, rfl⟩
       rw [hW7]
       have HR7 := Aside0.mk (show RT 67 wb [(w2.heap.size, .cells #[.int .u64 a0, .int .u64 a1, .int .u64 a2, .int .u64 0, .int .u64 0, .int .u64 0, .int .u64 0, .int .u64 0, .int .u64 0] 54 (0, 0)), (wr.heap.size, .cells #[.int .i64 1, .int .u64 4] 56 (0, 0)), (w.heap.size, .cells #[.int .i64 0, .int .u64 0, .bool false, .int .u64 0, .int .u64 0, .int .u64 0, .bool false, .int .u64 0, .int .u64 0] 29 (0, 0))] g bb [] true W7 by
        rw [← hW7]
        refine RT.set (cs := #[.int .u64 a0, .int .u64 a1, .int .u64 a2, .int .u64 0, .int .u64 0, .int .u64 0, .int .u64 0, .int .u64 0, .int .u64 0]) (HR6.out.sub (bs2 := [(w2.heap.size, .cells #[.int .u64 a0, .int .u64 a1, .int .u64 a2, .int .u64 0, .int .u64 0, .int .u64 0, .int .u64 0, .int .u64 0, .int .u64 0] 54 (0, 0)), (wr.heap.size, .cells #[.int .i64 1, .int .u64 4] 56 (0, 0)), (w.heap.size, .cells #[.int .i64 0, .int .u64 0, .bool false, .int .u64 0, .int .u64 0, .int .u64 0, .bool false, .int .u64 0, .int .u64 0] 29 (0, 0))]) (by intro q hq; simp only [List.mem_cons, List.not_mem_nil, or_false] at hq ⊢; rcases hq with rfl | rfl | rfl <;> simp)) HGE.out (by
         intro q hq
         simp only [List.mem_cons, List.not_mem_nil, or_false] at hq
         rcases hq with rfl | rfl
         · exact HNE.out
         · have := HGE.out; have := HWS.out; simp only; omega) 3 (.int .u64 0))
       clear hW7 HR6 yn6 zn6
       obtain ⟨f0, f1⟩ := MBlk.c2 (HR7.out.keep _ (List.mem_cons_of_mem _ (List.mem_cons_self ..))).1
       have yn := HR7.out.cell (j := 3) (List.mem_cons_self ..) rfl
       have yn' : W7.cell? ⟨w2.heap.size, 3, none⟩ = some (.int .u64 0) := yn
       clear yn
       cases fit with
       | false =>
        have e : (false && (((4 : Int) == 0) || ((0 : Int) == 4))) = false := by simp
        replace H := Aside0.mk (show ether_TakeArp.go k (ether_TakeArp.tab.drop 4) [a0, a1, a2, 0] [] true false = some x by have h_ := H.out; rw [e] at h_; exact h_)
        go_region
        all_goals go_wp2_with fail
        go_roundg d
        case measure => omega
        case rel => exact ⟨4, [a0, a1, a2, 0], _, _, false, rfl, rfl, ⟨by have := HI.out; omega⟩, ⟨rfl⟩, H, ⟨((HR7.out.more (below_drew1 (Below.refl _ _))).sub (bs2 := [(w2.heap.size, .cells #[.int .u64 a0, .int .u64 a1, .int .u64 a2, .int .u64 0, .int .u64 0, .int .u64 0, .int .u64 0, .int .u64 0, .int .u64 0] 54 (0, 0)), (w.heap.size, .cells #[.int .i64 0, .int .u64 0, .bool false, .int .u64 0, .int .u64 0, .int .u64 0, .bool false, .int .u64 0, .int .u64 0] 29 (0, 0))]) (by intro q hq; simp only [List.mem_cons, List.not_mem_nil, or_false] at hq ⊢; rcases hq with rfl | rfl <;> simp))⟩⟩
       | true =>
        have e : (true && (((4 : Int) == 0) || ((0 : Int) == 4))) = false := by decide
        replace H := Aside0.mk (show ether_TakeArp.go k (ether_TakeArp.tab.drop 4) [a0, a1, a2, 0] [] true false = some x by have h_ := H.out; rw [e] at h_; exact h_)
        go_region
        all_goals go_wp2_with fail
        go_roundg d
        case measure => omega
        case rel => exact ⟨4, [a0, a1, a2, 0], _, _, false, rfl, rfl, ⟨by have := HI.out; omega⟩, ⟨rfl⟩, H, ⟨((HR7.out.more (below_drew1 (Below.refl _ _))).sub (bs2 := [(w2.heap.size, .cells #[.int .u64 a0, .int .u64 a1, .int .u64 a2, .int .u64 0, .int .u64 0, .int .u64 0, .int .u64 0, .int .u64 0, .int .u64 0] 54 (0, 0)), (w.heap.size, .cells #[.int .i64 0, .int .u64 0, .bool false, .int .u64 0, .int .u64 0, .int .u64 0, .bool false, .int .u64 0, .int .u64 0] 29 (0, 0))]) (by intro q hq; simp only [List.mem_cons, List.not_mem_nil, or_false] at hq ⊢; rcases hq with rfl | rfl <;> simp))⟩⟩
   ·
     clear hi
     rcases acc with _ | ⟨a0, acc⟩
     · simp at hal
     rcases acc with _ | ⟨a1, acc⟩
     · simp at hal
     rcases acc with _ | ⟨a2, acc⟩
     · simp at hal
     rcases acc with _ | ⟨a3, acc⟩
     · simp at hal
     obtain rfl : acc = [] := List.eq_nil_of_length_eq_zero (by simpa using hal)
     clear hal
     have HRn := Aside0.mk (show RT 67 wb [(w2.heap.size, .cells #[.int .u64 a0, .int .u64 a1, .int .u64 a2, .int .u64 a3, .int .u64 0, .int .u64 0, .int .u64 0, .int .u64 0, .int .u64 0] 54 (0, 0)), (w.heap.size, .cells #[.int .i64 0, .int .u64 0, .bool false, .int .u64 0, .int .u64 0, .int .u64 0, .bool false, .int .u64 0, .int .u64 0] 29 (0, 0))] g bb l sh wr from HR.out)
     have h := HGO.out
     rw [show ether_TakeArp.tab.drop 4 = (2, 0) :: ether_TakeArp.tab.drop 5 from rfl, ether_TakeArp.go] at h
     obtain ⟨⟨n, ok⟩, hn, h⟩ := Option.bind_eq_some_iff.1 h
     have HNN := Aside0.mk (show octet_Get.f k l 0 2 = some (n, ok) from hn)
     clear hn HGO HR
     have HWR := Aside0.mk (show wb.heap.size ≤ wr.heap.size from HRn.out.below.size)
     have HNE := Aside0.mk (show wr.heap.size ≠ w2.heap.size by have h_ := (HRn.out.keep _ (List.mem_cons_self ..)).1; have := (Array.getElem?_eq_some_iff.1 h_).1; simp only at this; omega)
     go_upto_region 7 with (fail)
     obtain ⟨W5, hW5⟩ : ∃ W5, wr.alloc (.cells #[.int .i64 2, .int .u64 0] 56) = W5 := ⟨_, rfl⟩
     rw [hW5]
     have HR5 := Aside0.mk (show RT 67 wb [(wr.heap.size, .cells #[.int .i64 2, .int .u64 0] 56 (0, 0)), (w2.heap.size, .cells #[.int .u64 a0, .int .u64 a1, .int .u64 a2, .int .u64 a3, .int .u64 0, .int .u64 0, .int .u64 0, .int .u64 0, .int .u64 0] 54 (0, 0)), (w.heap.size, .cells #[.int .i64 0, .int .u64 0, .bool false, .int .u64 0, .int .u64 0, .int .u64 0, .bool false, .int .u64 0, .int .u64 0] 29 (0, 0))] g bb l sh W5 by rw [← hW5]; exact HRn.out.alloc _)
     clear hW5 HRn
     obtain ⟨f0, f1⟩ := MBlk.c2 (HR5.out.keep _ (List.mem_cons_self ..)).1
     have zn := HR5.out.free 4 (List.mem_cons_of_mem _ (List.mem_cons_self ..))
     by_cases hok : sh = false ∧ ok = true
     · obtain ⟨rfl, rfl⟩ := hok
       rw [if_pos ⟨rfl, rfl⟩] at h
       split at h
       case isFalse => cases h
       rename_i hle
       have HLE := Aside0.mk hle; have H := Aside0.mk h
       clear hle h
       go_wp2_with fail
       refine Calls.mono (ether_TakeArp.ok HR5.out HNN.out (by decide) HLE.out) ?_
       rintro e w6 ⟨rfl, hrs⟩
       have HR6 := Aside0.mk (show RT 67 wb [(wr.heap.size, .cells #[.int .i64 2, .int .u64 0] 56 (0, 0)), (w2.heap.size, .cells #[.int .u64 a0, .int .u64 a1, .int .u64 a2, .int .u64 a3, .int .u64 0, .int .u64 0, .int .u64 0, .int .u64 0, .int .u64 0] 54 (0, 0)), (w.heap.size, .cells #[.int .i64 0, .int .u64 0, .bool false, .int .u64 0, .int .u64 0, .int .u64 0, .bool false, .int .u64 0, .int .u64 0] 29 (0, 0))] g bb (l.drop 2) false w6 from hrs)
       have zn6 := HR6.out.free 4 (List.mem_cons_of_mem _ (List.mem_cons_self ..))
       have yn6 := HR6.out.cell (j := 4) (List.mem_cons_of_mem _ (List.mem_cons_self ..)) rfl
       clear hrs HR5 f0 f1 zn
       go_upto_region 8 with (fail)
       obtain ⟨W7, hW7⟩ : ∃ W7, w6.setCell ⟨w2.heap.size, 4, none⟩ (.int .u64 n) = W7 := ⟨_, rfl⟩
       rw [hW7]
       have HR7 := Aside0.mk (show RT 67 wb [(w2.heap.size, .cells #[.int .u64 a0, .int .u64 a1, .int .u64 a2, .int .u64 a3, .int .u64 n, .int .u64 0, .int .u64 0, .int .u64 0, .int .u64 0] 54 (0, 0)), (wr.heap.size, .cells #[.int .i64 2, .int .u64 0] 56 (0, 0)), (w.heap.size, .cells #[.int .i64 0, .int .u64 0, .bool false, .int .u64 0, .int .u64 0, .int .u64 0, .bool false, .int .u64 0, .int .u64 0] 29 (0, 0))] g bb (l.drop 2) false W7 by
        rw [← hW7]
        refine RT.set (cs := #[.int .u64 a0, .int .u64 a1, .int .u64 a2, .int .u64 a3, .int .u64 0, .int .u64 0, .int .u64 0, .int .u64 0, .int .u64 0]) (HR6.out.sub (bs2 := [(w2.heap.size, .cells #[.int .u64 a0, .int .u64 a1, .int .u64 a2, .int .u64 a3, .int .u64 0, .int .u64 0, .int .u64 0, .int .u64 0, .int .u64 0] 54 (0, 0)), (wr.heap.size, .cells #[.int .i64 2, .int .u64 0] 56 (0, 0)), (w.heap.size, .cells #[.int .i64 0, .int .u64 0, .bool false, .int .u64 0, .int .u64 0, .int .u64 0, .bool false, .int .u64 0, .int .u64 0] 29 (0, 0))]) (by intro q hq; simp only [List.mem_cons, List.not_mem_nil, or_false] at hq ⊢; rcases hq with rfl | rfl | rfl <;> simp)) HGE.out (by
         intro q hq
         simp only [List.mem_cons, List.not_mem_nil, or_false] at hq
         rcases hq with rfl | rfl
         · exact HNE.out
         · have := HGE.out; have := HWS.out; simp only; omega) 4 (.int .u64 n))
       clear hW7 HR6 yn6 zn6
       obtain ⟨f0, f1⟩ := MBlk.c2 (HR7.out.keep _ (List.mem_cons_of_mem _ (List.mem_cons_self ..))).1
       have yn := HR7.out.cell (j := 4) (List.mem_cons_self ..) rfl
       have yn' : W7.cell? ⟨w2.heap.size, 4, none⟩ = some (.int .u64 n) := yn
       clear yn
       cases fit with
       | false =>
        have e : (false && (((0 : Int) == 0) || (n == 0))) = false := by simp
        replace H := Aside0.mk (show ether_TakeArp.go k (ether_TakeArp.tab.drop 5) [a0, a1, a2, a3, n] (l.drop 2) false false = some x by have h_ := H.out; rw [e] at h_; exact h_)
        go_region
        all_goals go_wp2_with fail
        go_roundg d
        case measure => omega
        case rel => exact ⟨5, [a0, a1, a2, a3, n], _, _, false, rfl, rfl, ⟨by have := HI.out; omega⟩, ⟨rfl⟩, H, ⟨((HR7.out.more (below_drew1 (Below.refl _ _))).sub (bs2 := [(w2.heap.size, .cells #[.int .u64 a0, .int .u64 a1, .int .u64 a2, .int .u64 a3, .int .u64 n, .int .u64 0, .int .u64 0, .int .u64 0, .int .u64 0] 54 (0, 0)), (w.heap.size, .cells #[.int .i64 0, .int .u64 0, .bool false, .int .u64 0, .int .u64 0, .int .u64 0, .bool false, .int .u64 0, .int .u64 0] 29 (0, 0))]) (by intro q hq; simp only [List.mem_cons, List.not_mem_nil, or_false] at hq ⊢; rcases hq with rfl | rfl <;> simp))⟩⟩
       | true =>
        have e : (true && (((0 : Int) == 0) || (n == 0))) = true := by simp
        replace H := Aside0.mk (show ether_TakeArp.go k (ether_TakeArp.tab.drop 5) [a0, a1, a2, a3, n] (l.drop 2) false true = some x by have h_ := H.out; rw [e] at h_; exact h_)
        go_region
        all_goals go_wp2_with fail
        go_roundg d
        case measure => omega
        case rel => exact ⟨5, [a0, a1, a2, a3, n], _, _, true, rfl, rfl, ⟨by have := HI.out; omega⟩, ⟨rfl⟩, H, ⟨((HR7.out.more (below_drew1 (Below.refl _ _))).sub (bs2 := [(w2.heap.size, .cells #[.int .u64 a0, .int .u64 a1, .int .u64 a2, .int .u64 a3, .int .u64 n, .int .u64 0, .int .u64 0, .int .u64 0, .int .u64 0] 54 (0, 0)), (w.heap.size, .cells #[.int .i64 0, .int .u64 0, .bool false, .int .u64 0, .int .u64 0, .int .u64 0, .bool false, .int .u64 0, .int .u64 0] 29 (0, 0))]) (by intro q hq; simp only [List.mem_cons, List.not_mem_nil, or_false] at hq ⊢; rcases hq with rfl | rfl <;> simp))⟩⟩
     · rw [if_neg hok] at h
       have H := Aside0.mk h; have HOK := Aside0.mk hok
       clear h hok
       go_wp2_with fail
       refine Calls.mono (ether_TakeArp.bad HR5.out HNN.out HOK.out) ?_
       rintro e w6 ⟨rfl, hrs⟩
       have HR6 := Aside0.mk (show RT 67 wb [(wr.heap.size, .cells #[.int .i64 2, .int .u64 0] 56 (0, 0)), (w2.heap.size, .cells #[.int .u64 a0, .int .u64 a1, .int .u64 a2, .int .u64 a3, .int .u64 0, .int .u64 0, .int .u64 0, .int .u64 0, .int .u64 0] 54 (0, 0)), (w.heap.size, .cells #[.int .i64 0, .int .u64 0, .bool false, .int .u64 0, .int .u64 0, .int .u64 0, .bool false, .int .u64 0, .int .u64 0] 29 (0, 0))] g bb [] true w6 from hrs)
       have zn6 := HR6.out.free 4 (List.mem_cons_of_mem _ (List.mem_cons_self ..))
       have yn6 := HR6.out.cell (j := 4) (List.mem_cons_of_mem _ (List.mem_cons_self ..)) rfl
       clear hrs HR5 f0 f1 zn
       go_upto_region 8 with (fail)
       obtain ⟨W7, hW7⟩ : ∃ W7, w6.setCell ⟨w2.heap.size, 4, none⟩ (.int .u64 0) = W7 := ⟨_, rfl⟩
       rw [hW7]
       have HR7 := Aside0.mk (show RT 67 wb [(w2.heap.size, .cells #[.int .u64 a0, .int .u64 a1, .int .u64 a2, .int .u64 a3, .int .u64 0, .int .u64 0, .int .u64 0, .int .u64 0, .int .u64 0] 54 (0, 0)), (wr.heap.size, .cells #[.int .i64 2, .int .u64 0] 56 (0, 0)), (w.heap.size, .cells #[.int .i64 0, .int .u64 0, .bool false, .int .u64 0, .int .u64 0, .int .u64 0, .bool false, .int .u64 0, .int .u64 0] 29 (0, 0))] g bb [] true W7 by
        rw [← hW7]
        refine RT.set (cs := #[.int .u64 a0, .int .u64 a1, .int .u64 a2, .int .u64 a3, .int .u64 0, .int .u64 0, .int .u64 0, .int .u64 0, .int .u64 0]) (HR6.out.sub (bs2 := [(w2.heap.size, .cells #[.int .u64 a0, .int .u64 a1, .int .u64 a2, .int .u64 a3, .int .u64 0, .int .u64 0, .int .u64 0, .int .u64 0, .int .u64 0] 54 (0, 0)), (wr.heap.size, .cells #[.int .i64 2, .int .u64 0] 56 (0, 0)), (w.heap.size, .cells #[.int .i64 0, .int .u64 0, .bool false, .int .u64 0, .int .u64 0, .int .u64 0, .bool false, .int .u64 0, .int .u64 0] 29 (0, 0))]) (by intro q hq; simp only [List.mem_cons, List.not_mem_nil, or_false] at hq ⊢; rcases hq with rfl | rfl | rfl <;> simp)) HGE.out (by
         intro q hq
         simp only [List.mem_cons, List.not_mem_nil, or_false] at hq
         rcases hq with rfl | rfl
         · exact HNE.out
         · have := HGE.out; have := HWS.out; simp only; omega) 4 (.int .u64 0))
       clear hW7 HR6 yn6 zn6
       obtain ⟨f0, f1⟩ := MBlk.c2 (HR7.out.keep _ (List.mem_cons_of_mem _ (List.mem_cons_self ..))).1
       have yn := HR7.out.cell (j := 4) (List.mem_cons_self ..) rfl
       have yn' : W7.cell? ⟨w2.heap.size, 4, none⟩ = some (.int .u64 0) := yn
       clear yn
       cases fit with
       | false =>
        have e : (false && (((0 : Int) == 0) || ((0 : Int) == 0))) = false := by simp
        replace H := Aside0.mk (show ether_TakeArp.go k (ether_TakeArp.tab.drop 5) [a0, a1, a2, a3, 0] [] true false = some x by have h_ := H.out; rw [e] at h_; exact h_)
        go_region
        all_goals go_wp2_with fail
        go_roundg d
        case measure => omega
        case rel => exact ⟨5, [a0, a1, a2, a3, 0], _, _, false, rfl, rfl, ⟨by have := HI.out; omega⟩, ⟨rfl⟩, H, ⟨((HR7.out.more (below_drew1 (Below.refl _ _))).sub (bs2 := [(w2.heap.size, .cells #[.int .u64 a0, .int .u64 a1, .int .u64 a2, .int .u64 a3, .int .u64 0, .int .u64 0, .int .u64 0, .int .u64 0, .int .u64 0] 54 (0, 0)), (w.heap.size, .cells #[.int .i64 0, .int .u64 0, .bool false, .int .u64 0, .int .u64 0, .int .u64 0, .bool false, .int .u64 0, .int .u64 0] 29 (0, 0))]) (by intro q hq; simp only [List.mem_cons, List.not_mem_nil, or_false] at hq ⊢; rcases hq with rfl | rfl <;> simp))⟩⟩
       | true =>
        have e : (true && (((0 : Int) == 0) || ((0 : Int) == 0))) = true := by simp
        replace H := Aside0.mk (show ether_TakeArp.go k (ether_TakeArp.tab.drop 5) [a0, a1, a2, a3, 0] [] true true = some x by have h_ := H.out; rw [e] at h_; exact h_)
        go_region
        all_goals go_wp2_with fail
        go_roundg d
        case measure => omega
        case rel => exact ⟨5, [a0, a1, a2, a3, 0], _, _, true, rfl, rfl, ⟨by have := HI.out; omega⟩, ⟨rfl⟩, H, ⟨((HR7.out.more (below_drew1 (Below.refl _ _))).sub (bs2 := [(w2.heap.size, .cells #[.int .u64 a0, .int .u64 a1, .int .u64 a2, .int .u64 a3, .int .u64 0, .int .u64 0, .int .u64 0, .int .u64 0, .int .u64 0] 54 (0, 0)), (w.heap.size, .cells #[.int .i64 0, .int .u64 0, .bool false, .int .u64 0, .int .u64 0, .int .u64 0, .bool false, .int .u64 0, .int .u64 0] 29 (0, 0))]) (by intro q hq; simp only [List.mem_cons, List.not_mem_nil, or_false] at hq ⊢; rcases hq with rfl | rfl <;> simp))⟩⟩
   ·
     clear hi
     rcases acc with _ | ⟨a0, acc⟩
     · simp at hal
     rcases acc with _ | ⟨a1, acc⟩
     · simp at hal
     rcases acc with _ | ⟨a2, acc⟩
     · simp at hal
     rcases acc with _ | ⟨a3, acc⟩
     · simp at hal
     rcases acc with _ | ⟨a4, acc⟩
     · simp at hal
     obtain rfl : acc = [] := List.eq_nil_of_length_eq_zero (by simpa using hal)
     clear hal
     have HRn := Aside0.mk (show RT 67 wb [(w2.heap.size, .cells #[.int .u64 a0, .int .u64 a1, .int .u64 a2, .int .u64 a3, .int .u64 a4, .int .u64 0, .int .u64 0, .int .u64 0, .int .u64 0] 54 (0, 0)), (w.heap.size, .cells #[.int .i64 0, .int .u64 0, .bool false, .int .u64 0, .int .u64 0, .int .u64 0, .bool false, .int .u64 0, .int .u64 0] 29 (0, 0))] g bb l sh wr from HR.out)
     have h := HGO.out
     rw [show ether_TakeArp.tab.drop 5 = (6, 0) :: ether_TakeArp.tab.drop 6 from rfl, ether_TakeArp.go] at h
     obtain ⟨⟨n, ok⟩, hn, h⟩ := Option.bind_eq_some_iff.1 h
     have HNN := Aside0.mk (show octet_Get.f k l 0 6 = some (n, ok) from hn)
     clear hn HGO HR
     have HWR := Aside0.mk (show wb.heap.size ≤ wr.heap.size from HRn.out.below.size)
     have HNE := Aside0.mk (show wr.heap.size ≠ w2.heap.size by have h_ := (HRn.out.keep _ (List.mem_cons_self ..)).1; have := (Array.getElem?_eq_some_iff.1 h_).1; simp only at this; omega)
     go_upto_region 7 with (fail)
     obtain ⟨W5, hW5⟩ : ∃ W5, wr.alloc (.cells #[.int .i64 6, .int .u64 0] 56) = W5 := ⟨_, rfl⟩
     rw [hW5]
     have HR5 := Aside0.mk (show RT 67 wb [(wr.heap.size, .cells #[.int .i64 6, .int .u64 0] 56 (0, 0)), (w2.heap.size, .cells #[.int .u64 a0, .int .u64 a1, .int .u64 a2, .int .u64 a3, .int .u64 a4, .int .u64 0, .int .u64 0, .int .u64 0, .int .u64 0] 54 (0, 0)), (w.heap.size, .cells #[.int .i64 0, .int .u64 0, .bool false, .int .u64 0, .int .u64 0, .int .u64 0, .bool false, .int .u64 0, .int .u64 0] 29 (0, 0))] g bb l sh W5 by rw [← hW5]; exact HRn.out.alloc _)
     clear hW5 HRn
     obtain ⟨f0, f1⟩ := MBlk.c2 (HR5.out.keep _ (List.mem_cons_self ..)).1
     have zn := HR5.out.free 5 (List.mem_cons_of_mem _ (List.mem_cons_self ..))
     by_cases hok : sh = false ∧ ok = true
     · obtain ⟨rfl, rfl⟩ := hok
       rw [if_pos ⟨rfl, rfl⟩] at h
       split at h
       case isFalse => cases h
       rename_i hle
       have HLE := Aside0.mk hle; have H := Aside0.mk h
       clear hle h
       go_wp2_with fail
       refine Calls.mono (ether_TakeArp.ok HR5.out HNN.out (by decide) HLE.out) ?_
       rintro e w6 ⟨rfl, hrs⟩
       have HR6 := Aside0.mk (show RT 67 wb [(wr.heap.size, .cells #[.int .i64 6, .int .u64 0] 56 (0, 0)), (w2.heap.size, .cells #[.int .u64 a0, .int .u64 a1, .int .u64 a2, .int .u64 a3, .int .u64 a4, .int .u64 0, .int .u64 0, .int .u64 0, .int .u64 0] 54 (0, 0)), (w.heap.size, .cells #[.int .i64 0, .int .u64 0, .bool false, .int .u64 0, .int .u64 0, .int .u64 0, .bool false, .int .u64 0, .int .u64 0] 29 (0, 0))] g bb (l.drop 6) false w6 from hrs)
       have zn6 := HR6.out.free 5 (List.mem_cons_of_mem _ (List.mem_cons_self ..))
       have yn6 := HR6.out.cell (j := 5) (List.mem_cons_of_mem _ (List.mem_cons_self ..)) rfl
       clear hrs HR5 f0 f1 zn
       go_upto_region 8 with (fail)
       obtain ⟨W7, hW7⟩ : ∃ W7, w6.setCell ⟨w2.heap.size, 5, none⟩ (.int .u64 n) = W7 := ⟨_, rfl⟩
       rw [hW7]
       have HR7 := Aside0.mk (show RT 67 wb [(w2.heap.size, .cells #[.int .u64 a0, .int .u64 a1, .int .u64 a2, .int .u64 a3, .int .u64 a4, .int .u64 n, .int .u64 0, .int .u64 0, .int .u64 0] 54 (0, 0)), (wr.heap.size, .cells #[.int .i64 6, .int .u64 0] 56 (0, 0)), (w.heap.size, .cells #[.int .i64 0, .int .u64 0, .bool false, .int .u64 0, .int .u64 0, .int .u64 0, .bool false, .int .u64 0, .int .u64 0] 29 (0, 0))] g bb (l.drop 6) false W7 by
        rw [← hW7]
        refine RT.set (cs := #[.int .u64 a0, .int .u64 a1, .int .u64 a2, .int .u64 a3, .int .u64 a4, .int .u64 0, .int .u64 0, .int .u64 0, .int .u64 0]) (HR6.out.sub (bs2 := [(w2.heap.size, .cells #[.int .u64 a0, .int .u64 a1, .int .u64 a2, .int .u64 a3, .int .u64 a4, .int .u64 0, .int .u64 0, .int .u64 0, .int .u64 0] 54 (0, 0)), (wr.heap.size, .cells #[.int .i64 6, .int .u64 0] 56 (0, 0)), (w.heap.size, .cells #[.int .i64 0, .int .u64 0, .bool false, .int .u64 0, .int .u64 0, .int .u64 0, .bool false, .int .u64 0, .int .u64 0] 29 (0, 0))]) (by intro q hq; simp only [List.mem_cons, List.not_mem_nil, or_false] at hq ⊢; rcases hq with rfl | rfl | rfl <;> simp)) HGE.out (by
         intro q hq
         simp only [List.mem_cons, List.not_mem_nil, or_false] at hq
         rcases hq with rfl | rfl
         · exact HNE.out
         · have := HGE.out; have := HWS.out; simp only; omega) 5 (.int .u64 n))
       clear hW7 HR6 yn6 zn6
       obtain ⟨f0, f1⟩ := MBlk.c2 (HR7.out.keep _ (List.mem_cons_of_mem _ (List.mem_cons_self ..))).1
       have yn := HR7.out.cell (j := 5) (List.mem_cons_self ..) rfl
       have yn' : W7.cell? ⟨w2.heap.size, 5, none⟩ = some (.int .u64 n) := yn
       clear yn
       cases fit with
       | false =>
        have e : (false && (((0 : Int) == 0) || (n == 0))) = false := by simp
        replace H := Aside0.mk (show ether_TakeArp.go k (ether_TakeArp.tab.drop 6) [a0, a1, a2, a3, a4, n] (l.drop 6) false false = some x by have h_ := H.out; rw [e] at h_; exact h_)
        go_region
        all_goals go_wp2_with fail
        go_roundg d
        case measure => omega
        case rel => exact ⟨6, [a0, a1, a2, a3, a4, n], _, _, false, rfl, rfl, ⟨by have := HI.out; omega⟩, ⟨rfl⟩, H, ⟨((HR7.out.more (below_drew1 (Below.refl _ _))).sub (bs2 := [(w2.heap.size, .cells #[.int .u64 a0, .int .u64 a1, .int .u64 a2, .int .u64 a3, .int .u64 a4, .int .u64 n, .int .u64 0, .int .u64 0, .int .u64 0] 54 (0, 0)), (w.heap.size, .cells #[.int .i64 0, .int .u64 0, .bool false, .int .u64 0, .int .u64 0, .int .u64 0, .bool false, .int .u64 0, .int .u64 0] 29 (0, 0))]) (by intro q hq; simp only [List.mem_cons, List.not_mem_nil, or_false] at hq ⊢; rcases hq with rfl | rfl <;> simp))⟩⟩
       | true =>
        have e : (true && (((0 : Int) == 0) || (n == 0))) = true := by simp
        replace H := Aside0.mk (show ether_TakeArp.go k (ether_TakeArp.tab.drop 6) [a0, a1, a2, a3, a4, n] (l.drop 6) false true = some x by have h_ := H.out; rw [e] at h_; exact h_)
        go_region
        all_goals go_wp2_with fail
        go_roundg d
        case measure => omega
        case rel => exact ⟨6, [a0, a1, a2, a3, a4, n], _, _, true, rfl, rfl, ⟨by have := HI.out; omega⟩, ⟨rfl⟩, H, ⟨((HR7.out.more (below_drew1 (Below.refl _ _))).sub (bs2 := [(w2.heap.size, .cells #[.int .u64 a0, .int .u64 a1, .int .u64 a2, .int .u64 a3, .int .u64 a4, .int .u64 n, .int .u64 0, .int .u64 0, .int .u64 0] 54 (0, 0)), (w.heap.size, .cells #[.int .i64 0, .int .u64 0, .bool false, .int .u64 0, .int .u64 0, .int .u64 0, .bool false, .int .u64 0, .int .u64 0] 29 (0, 0))]) (by intro q hq; simp only [List.mem_cons, List.not_mem_nil, or_false] at hq ⊢; rcases hq with rfl | rfl <;> simp))⟩⟩
     · rw [if_neg hok] at h
       have H := Aside0.mk h; have HOK := Aside0.mk hok
       clear h hok
       go_wp2_with fail
       refine Calls.mono (ether_TakeArp.bad HR5.out HNN.out HOK.out) ?_
       rintro e w6 ⟨rfl, hrs⟩
       have HR6 := Aside0.mk (show RT 67 wb [(wr.heap.size, .cells #[.int .i64 6, .int .u64 0] 56 (0, 0)), (w2.heap.size, .cells #[.int .u64 a0, .int .u64 a1, .int .u64 a2, .int .u64 a3, .int .u64 a4, .int .u64 0, .int .u64 0, .int .u64 0, .int .u64 0] 54 (0, 0)), (w.heap.size, .cells #[.int .i64 0, .int .u64 0, .bool false, .int .u64 0, .int .u64 0, .int .u64 0, .bool false, .int .u64 0, .int .u64 0] 29 (0, 0))] g bb [] true w6 from hrs)
       have zn6 := HR6.out.free 5 (List.mem_cons_of_mem _ (List.mem_cons_self ..))
       have yn6 := HR6.out.cell (j := 5) (List.mem_cons_of_mem _ (List.mem_cons_self ..)) rfl
       clear hrs HR5 f0 f1 zn
       go_upto_region 8 with (fail)
       obtain ⟨W7, hW7⟩ : ∃ W7, w6.setCell ⟨w2.heap.size, 5, none⟩ (.int .u64 0) = W7 := ⟨_, rfl⟩
       rw [hW7]
       have HR7 := Aside0.mk (show RT 67 wb [(w2.heap.size, .cells #[.int .u64 a0, .int .u64 a1, .int .u64 a2, .int .u64 a3, .int .u64 a4, .int .u64 0, .int .u64 0, .int .u64 0, .int .u64 0] 54 (0, 0)), (wr.heap.size, .cells #[.int .i64 6, .int .u64 0] 56 (0, 0)), (w.heap.size, .cells #[.int .i64 0, .int .u64 0, .bool false, .int .u64 0, .int .u64 0, .int .u64 0, .bool false, .int .u64 0, .int .u64 0] 29 (0, 0))] g bb [] true W7 by
        rw [← hW7]
        refine RT.set (cs := #[.int .u64 a0, .int .u64 a1, .int .u64 a2, .int .u64 a3, .int .u64 a4, .int .u64 0, .int .u64 0, .int .u64 0, .int .u64 0]) (HR6.out.sub (bs2 := [(w2.heap.size, .cells #[.int .u64 a0, .int .u64 a1, .int .u64 a2, .int .u64 a3, .int .u64 a4, .int .u64 0, .int .u64 0, .int .u64 0, .int .u64 0] 54 (0, 0)), (wr.heap.size, .cells #[.int .i64 6, .int .u64 0] 56 (0, 0)), (w.heap.size, .cells #[.int .i64 0, .int .u64 0, .bool false, .int .u64 0, .int .u64 0, .int .u64 0, .bool false, .int .u64 0, .int .u64 0] 29 (0, 0))]) (by intro q hq; simp only [List.mem_cons, List.not_mem_nil, or_false] at hq ⊢; rcases hq with rfl | rfl | rfl <;> simp)) HGE.out (by
         intro q hq
         simp only [List.mem_cons, List.not_mem_nil, or_false] at hq
         rcases hq with rfl | rfl
         · exact HNE.out
         · have := HGE.out; have := HWS.out; simp only; omega) 5 (.int .u64 0))
       clear hW7 HR6 yn6 zn6
       obtain ⟨f0, f1⟩ := MBlk.c2 (HR7.out.keep _ (List.mem_cons_of_mem _ (List.mem_cons_self ..))).1
       have yn := HR7.out.cell (j := 5) (List.mem_cons_self ..) rfl
       have yn' : W7.cell? ⟨w2.heap.size, 5, none⟩ = some (.int .u64 0) := yn
       clear yn
       cases fit with
       | false =>
        have e : (false && (((0 : Int) == 0) || ((0 : Int) == 0))) = false := by simp
        replace H := Aside0.mk (show ether_TakeArp.go k (ether_TakeArp.tab.drop 6) [a0, a1, a2, a3, a4, 0] [] true false = some x by have h_ := H.out; rw [e] at h_; exact h_)
        go_region
        all_goals go_wp2_with fail
        go_roundg d
        case measure => omega
        case rel => exact ⟨6, [a0, a1, a2, a3, a4, 0], _, _, false, rfl, rfl, ⟨by have := HI.out; omega⟩, ⟨rfl⟩, H, ⟨((HR7.out.more (below_drew1 (Below.refl _ _))).sub (bs2 := [(w2.heap.size, .cells #[.int .u64 a0, .int .u64 a1, .int .u64 a2, .int .u64 a3, .int .u64 a4, .int .u64 0, .int .u64 0, .int .u64 0, .int .u64 0] 54 (0, 0)), (w.heap.size, .cells #[.int .i64 0, .int .u64 0, .bool false, .int .u64 0, .int .u64 0, .int .u64 0, .bool false, .int .u64 0, .int .u64 0] 29 (0, 0))]) (by intro q hq; simp only [List.mem_cons, List.not_mem_nil, or_false] at hq ⊢; rcases hq with rfl | rfl <;> simp))⟩⟩
       | true =>
        have e : (true && (((0 : Int) == 0) || ((0 : Int) == 0))) = true := by simp
        replace H := Aside0.mk (show ether_TakeArp.go k (ether_TakeArp.tab.drop 6) [a0, a1, a2, a3, a4, 0] [] true true = some x by have h_ := H.out; rw [e] at h_; exact h_)
        go_region
        all_goals go_wp2_with fail
        go_roundg d
        case measure => omega
        case rel => exact ⟨6, [a0, a1, a2, a3, a4, 0], _, _, true, rfl, rfl, ⟨by have := HI.out; omega⟩, ⟨rfl⟩, H, ⟨((HR7.out.more (below_drew1 (Below.refl _ _))).sub (bs2 := [(w2.heap.size, .cells #[.int .u64 a0, .int .u64 a1, .int .u64 a2, .int .u64 a3, .int .u64 a4, .int .u64 0, .int .u64 0, .int .u64 0, .int .u64 0] 54 (0, 0)), (w.heap.size, .cells #[.int .i64 0, .int .u64 0, .bool false, .int .u64 0, .int .u64 0, .int .u64 0, .bool false, .int .u64 0, .int .u64 0] 29 (0, 0))]) (by intro q hq; simp only [List.mem_cons, List.not_mem_nil, or_false] at hq ⊢; rcases hq with rfl | rfl <;> simp))⟩⟩
   ·
     clear hi
     rcases acc with _ | ⟨a0, acc⟩
     · simp at hal
     rcases acc with _ | ⟨a1, acc⟩
     · simp at hal
     rcases acc with _ | ⟨a2, acc⟩
     · simp at hal
     rcases acc with _ | ⟨a3, acc⟩
     · simp at hal
     rcases acc with _ | ⟨a4, acc⟩
     · simp at hal
     rcases acc with _ | ⟨a5, acc⟩
     · simp at hal
     obtain rfl : acc = [] := List.eq_nil_of_length_eq_zero (by simpa using hal)
     clear hal
     have HRn := Aside0.mk (show RT 67 wb [(w2.heap.size, .cells #[.int .u64 a0, .int .u64 a1, .int .u64 a2, .int .u64 a3, .int .u64 a4, .int .u64 a5, .int .u64 0, .int .u64 0, .int .u64 0] 54 (0, 0)), (w.heap.size, .cells #[.int .i64 0, .int .u64 0, .bool false, .int .u64 0, .int .u64 0, .int .u64 0, .bool false, .int .u64 0, .int .u64 0] 29 (0, 0))] g bb l sh wr from HR.out)
     have h := HGO.out
     rw [show ether_TakeArp.tab.drop 6 = (4, 0) :: ether_TakeArp.tab.drop 7 from rfl, ether_TakeArp.go] at h
     obtain ⟨⟨n, ok⟩, hn, h⟩ := Option.bind_eq_some_iff.1 h
     have HNN := Aside0.mk (show octet_Get.f k l 0 4 = some (n, ok) from hn)
     clear hn HGO HR
     have HWR := Aside0.mk (show wb.heap.size ≤ wr.heap.size from HRn.out.below.size)
     have HNE := Aside0.mk (show wr.heap.size ≠ w2.heap.size by have h_ := (HRn.out.keep _ (List.mem_cons_self ..)).1; have := (Array.getElem?_eq_some_iff.1 h_).1; simp only at this; omega)
     go_upto_region 7 with (fail)
     obtain ⟨W5, hW5⟩ : ∃ W5, wr.alloc (.cells #[.int .i64 4, .int .u64 0] 56) = W5 := ⟨_, rfl⟩
     rw [hW5]
     have HR5 := Aside0.mk (show RT 67 wb [(wr.heap.size, .cells #[.int .i64 4, .int .u64 0] 56 (0, 0)), (w2.heap.size, .cells #[.int .u64 a0, .int .u64 a1, .int .u64 a2, .int .u64 a3, .int .u64 a4, .int .u64 a5, .int .u64 0, .int .u64 0, .int .u64 0] 54 (0, 0)), (w.heap.size, .cells #[.int .i64 0, .int .u64 0, .bool false, .int .u64 0, .int .u64 0, .int .u64 0, .bool false, .int .u64 0, .int .u64 0] 29 (0, 0))] g bb l sh W5 by rw [← hW5]; exact HRn.out.alloc _)
     clear hW5 HRn
     obtain ⟨f0, f1⟩ := MBlk.c2 (HR5.out.keep _ (List.mem_cons_self ..)).1
     have zn := HR5.out.free 6 (List.mem_cons_of_mem _ (List.mem_cons_self ..))
     by_cases hok : sh = false ∧ ok = true
     · obtain ⟨rfl, rfl⟩ := hok
       rw [if_pos ⟨rfl, rfl⟩] at h
       split at h
       case isFalse => cases h
       rename_i hle
       have HLE := Aside0.mk hle; have H := Aside0.mk h
       clear hle h
       go_wp2_with fail
       refine Calls.mono (ether_TakeArp.ok HR5.out HNN.out (by decide) HLE.out) ?_
       rintro e w6 ⟨rfl, hrs⟩
       have HR6 := Aside0.mk (show RT 67 wb [(wr.heap.size, .cells #[.int .i64 4, .int .u64 0] 56 (0, 0)), (w2.heap.size, .cells #[.int .u64 a0, .int .u64 a1, .int .u64 a2, .int .u64 a3, .int .u64 a4, .int .u64 a5, .int .u64 0, .int .u64 0, .int .u64 0] 54 (0, 0)), (w.heap.size, .cells #[.int .i64 0, .int .u64 0, .bool false, .int .u64 0, .int .u64 0, .int .u64 0, .bool false, .int .u64 0, .int .u64 0] 29 (0, 0))] g bb (l.drop 4) false w6 from hrs)
       have zn6 := HR6.out.free 6 (List.mem_cons_of_mem _ (List.mem_cons_self ..))
       have yn6 := HR6.out.cell (j := 6) (List.mem_cons_of_mem _ (List.mem_cons_self ..)) rfl
       clear hrs HR5 f0 f1 zn
       go_upto_region 8 with (fail)
       obtain ⟨W7, hW7⟩ : ∃ W7, w6.setCell ⟨w2.heap.size, 6, none⟩ (.int .u64 n) = W7 := ⟨_, rfl⟩
       rw [hW7]
       have HR7 := Aside0.mk (show RT 67 wb [(w2.heap.size, .cells #[.int .u64 a0, .int .u64 a1, .int .u64 a2, .int .u64 a3, .int .u64 a4, .int .u64 a5, .int .u64 n, .int .u64 0, .int .u64 0] 54 (0, 0)), (wr.heap.size, .cells #[.int .i64 4, .int .u64 0] 56 (0, 0)), (w.heap.size, .cells #[.int .i64 0, .int .u64 0, .bool false, .int .u64 0, .int .u64 0, .int .u64 0, .bool false, .int .u64 0, .int .u64 0] 29 (0, 0))] g bb (l.drop 4) false W7 by
        rw [← hW7]
        refine RT.set (cs := #[.int .u64 a0, .int .u64 a1, .int .u64 a2, .int .u64 a3, .int .u64 a4, .int .u64 a5, .int .u64 0, .int .u64 0, .int .u64 0]) (HR6.out.sub (bs2 := [(w2.heap.size, .cells #[.int .u64 a0, .int .u64 a1, .int .u64 a2, .int .u64 a3, .int .u64 a4, .int .u64 a5, .int .u64 0, .int .u64 0, .int .u64 0] 54 (0, 0)), (wr.heap.size, .cells #[.int .i64 4, .int .u64 0] 56 (0, 0)), (w.heap.size, .cells #[.int .i64 0, .int .u64 0, .bool false, .int .u64 0, .int .u64 0, .int .u64 0, .bool false, .int .u64 0, .int .u64 0] 29 (0, 0))]) (by intro q hq; simp only [List.mem_cons, List.not_mem_nil, or_false] at hq ⊢; rcases hq with rfl | rfl | rfl <;> simp)) HGE.out (by
         intro q hq
         simp only [List.mem_cons, List.not_mem_nil, or_false] at hq
         rcases hq with rfl | rfl
         · exact HNE.out
         · have := HGE.out; have := HWS.out; simp only; omega) 6 (.int .u64 n))
       clear hW7 HR6 yn6 zn6
       obtain ⟨f0, f1⟩ := MBlk.c2 (HR7.out.keep _ (List.mem_cons_of_mem _ (List.mem_cons_self ..))).1
       have yn := HR7.out.cell (j := 6) (List.mem_cons_self ..) rfl
       have yn' : W7.cell? ⟨w2.heap.size, 6, none⟩ = some (.int .u64 n) := yn
       clear yn
       cases fit with
       | false =>
        have e : (false && (((0 : Int) == 0) || (n == 0))) = false := by simp
        replace H := Aside0.mk (show ether_TakeArp.go k (ether_TakeArp.tab.drop 7) [a0, a1, a2, a3, a4, a5, n] (l.drop 4) false false = some x by have h_ := H.out; rw [e] at h_; exact h_)
        go_region
        all_goals go_wp2_with fail
        go_roundg d
        case measure => omega
        case rel => exact ⟨7, [a0, a1, a2, a3, a4, a5, n], _, _, false, rfl, rfl, ⟨by have := HI.out; omega⟩, ⟨rfl⟩, H, ⟨((HR7.out.more (below_drew1 (Below.refl _ _))).sub (bs2 := [(w2.heap.size, .cells #[.int .u64 a0, .int .u64 a1, .int .u64 a2, .int .u64 a3, .int .u64 a4, .int .u64 a5, .int .u64 n, .int .u64 0, .int .u64 0] 54 (0, 0)), (w.heap.size, .cells #[.int .i64 0, .int .u64 0, .bool false, .int .u64 0, .int .u64 0, .int .u64 0, .bool false, .int .u64 0, .int .u64 0] 29 (0, 0))]) (by intro q hq; simp only [List.mem_cons, List.not_mem_nil, or_false] at hq ⊢; rcases hq with rfl | rfl <;> simp))⟩⟩
       | true =>
        have e : (true && (((0 : Int) == 0) || (n == 0))) = true := by simp
        replace H := Aside0.mk (show ether_TakeArp.go k (ether_TakeArp.tab.drop 7) [a0, a1, a2, a3, a4, a5, n] (l.drop 4) false true = some x by have h_ := H.out; rw [e] at h_; exact h_)
        go_region
        all_goals go_wp2_with fail
        go_roundg d
        case measure => omega
        case rel => exact ⟨7, [a0, a1, a2, a3, a4, a5, n], _, _, true, rfl, rfl, ⟨by have := HI.out; omega⟩, ⟨rfl⟩, H, ⟨((HR7.out.more (below_drew1 (Below.refl _ _))).sub (bs2 := [(w2.heap.size, .cells #[.int .u64 a0, .int .u64 a1, .int .u64 a2, .int .u64 a3, .int .u64 a4, .int .u64 a5, .int .u64 n, .int .u64 0, .int .u64 0] 54 (0, 0)), (w.heap.size, .cells #[.int .i64 0, .int .u64 0, .bool false, .int .u64 0, .int .u64 0, .int .u64 0, .bool false, .int .u64 0, .int .u64 0] 29 (0, 0))]) (by intro q hq; simp only [List.mem_cons, List.not_mem_nil, or_false] at hq ⊢; rcases hq with rfl | rfl <;> simp))⟩⟩
     · rw [if_neg hok] at h
       have H := Aside0.mk h; have HOK := Aside0.mk hok
       clear h hok
       go_wp2_with fail
       refine Calls.mono (ether_TakeArp.bad HR5.out HNN.out HOK.out) ?_
       rintro e w6 ⟨rfl, hrs⟩
       have HR6 := Aside0.mk (show RT 67 wb [(wr.heap.size, .cells #[.int .i64 4, .int .u64 0] 56 (0, 0)), (w2.heap.size, .cells #[.int .u64 a0, .int .u64 a1, .int .u64 a2, .int .u64 a3, .int .u64 a4, .int .u64 a5, .int .u64 0, .int .u64 0, .int .u64 0] 54 (0, 0)), (w.heap.size, .cells #[.int .i64 0, .int .u64 0, .bool false, .int .u64 0, .int .u64 0, .int .u64 0, .bool false, .int .u64 0, .int .u64 0] 29 (0, 0))] g bb [] true w6 from hrs)
       have zn6 := HR6.out.free 6 (List.mem_cons_of_mem _ (List.mem_cons_self ..))
       have yn6 := HR6.out.cell (j := 6) (List.mem_cons_of_mem _ (List.mem_cons_self ..)) rfl
       clear hrs HR5 f0 f1 zn
       go_upto_region 8 with (fail)
       obtain ⟨W7, hW7⟩ : ∃ W7, w6.setCell ⟨w2.heap.size, 6, none⟩ (.int .u64 0) = W7 := ⟨_, rfl⟩
       rw [hW7]
       have HR7 := Aside0.mk (show RT 67 wb [(w2.heap.size, .cells #[.int .u64 a0, .int .u64 a1, .int .u64 a2, .int .u64 a3, .int .u64 a4, .int .u64 a5, .int .u64 0, .int .u64 0, .int .u64 0] 54 (0, 0)), (wr.heap.size, .cells #[.int .i64 4, .int .u64 0] 56 (0, 0)), (w.heap.size, .cells #[.int .i64 0, .int .u64 0, .bool false, .int .u64 0, .int .u64 0, .int .u64 0, .bool false, .int .u64 0, .int .u64 0] 29 (0, 0))] g bb [] true W7 by
        rw [← hW7]
        refine RT.set (cs := #[.int .u64 a0, .int .u64 a1, .int .u64 a2, .int .u64 a3, .int .u64 a4, .int .u64 a5, .int .u64 0, .int .u64 0, .int .u64 0]) (HR6.out.sub (bs2 := [(w2.heap.size, .cells #[.int .u64 a0, .int .u64 a1, .int .u64 a2, .int .u64 a3, .int .u64 a4, .int .u64 a5, .int .u64 0, .int .u64 0, .int .u64 0] 54 (0, 0)), (wr.heap.size, .cells #[.int .i64 4, .int .u64 0] 56 (0, 0)), (w.heap.size, .cells #[.int .i64 0, .int .u64 0, .bool false, .int .u64 0, .int .u64 0, .int .u64 0, .bool false, .int .u64 0, .int .u64 0] 29 (0, 0))]) (by intro q hq; simp only [List.mem_cons, List.not_mem_nil, or_false] at hq ⊢; rcases hq with rfl | rfl | rfl <;> simp)) HGE.out (by
         intro q hq
         simp only [List.mem_cons, List.not_mem_nil, or_false] at hq
         rcases hq with rfl | rfl
         · exact HNE.out
         · have := HGE.out; have := HWS.out; simp only; omega) 6 (.int .u64 0))
       clear hW7 HR6 yn6 zn6
       obtain ⟨f0, f1⟩ := MBlk.c2 (HR7.out.keep _ (List.mem_cons_of_mem _ (List.mem_cons_self ..))).1
       have yn := HR7.out.cell (j := 6) (List.mem_cons_self ..) rfl
       have yn' : W7.cell? ⟨w2.heap.size, 6, none⟩ = some (.int .u64 0) := yn
       clear yn
       cases fit with
       | false =>
        have e : (false && (((0 : Int) == 0) || ((0 : Int) == 0))) = false := by simp
        replace H := Aside0.mk (show ether_TakeArp.go k (ether_TakeArp.tab.drop 7) [a0, a1, a2, a3, a4, a5, 0] [] true false = some x by have h_ := H.out; rw [e] at h_; exact h_)
        go_region
        all_goals go_wp2_with fail
        go_roundg d
        case measure => omega
        case rel => exact ⟨7, [a0, a1, a2, a3, a4, a5, 0], _, _, false, rfl, rfl, ⟨by have := HI.out; omega⟩, ⟨rfl⟩, H, ⟨((HR7.out.more (below_drew1 (Below.refl _ _))).sub (bs2 := [(w2.heap.size, .cells #[.int .u64 a0, .int .u64 a1, .int .u64 a2, .int .u64 a3, .int .u64 a4, .int .u64 a5, .int .u64 0, .int .u64 0, .int .u64 0] 54 (0, 0)), (w.heap.size, .cells #[.int .i64 0, .int .u64 0, .bool false, .int .u64 0, .int .u64 0, .int .u64 0, .bool false, .int .u64 0, .int .u64 0] 29 (0, 0))]) (by intro q hq; simp only [List.mem_cons, List.not_mem_nil, or_false] at hq ⊢; rcases hq with rfl | rfl <;> simp))⟩⟩
       | true =>
        have e : (true && (((0 : Int) == 0) || ((0 : Int) == 0))) = true := by simp
        replace H := Aside0.mk (show ether_TakeArp.go k (ether_TakeArp.tab.drop 7) [a0, a1, a2, a3, a4, a5, 0] [] true true = some x by have h_ := H.out; rw [e] at h_; exact h_)
        go_region
        all_goals go_wp2_with fail
        go_roundg d
        case measure => omega
        case rel => exact ⟨7, [a0, a1, a2, a3, a4, a5, 0], _, _, true, rfl, rfl, ⟨by have := HI.out; omega⟩, ⟨rfl⟩, H, ⟨((HR7.out.more (below_drew1 (Below.refl _ _))).sub (bs2 := [(w2.heap.size, .cells #[.int .u64 a0, .int .u64 a1, .int .u64 a2, .int .u64 a3, .int .u64 a4, .int .u64 a5, .int .u64 0, .int .u64 0, .int .u64 0] 54 (0, 0)), (w.heap.size, .cells #[.int .i64 0, .int .u64 0, .bool false, .int .u64 0, .int .u64 0, .int .u64 0, .bool false, .int .u64 0, .int .u64 0] 29 (0, 0))]) (by intro q hq; simp only [List.mem_cons, List.not_mem_nil, or_false] at hq ⊢; rcases hq with rfl | rfl <;> simp))⟩⟩
   ·
     clear hi
     rcases acc with _ | ⟨a0, acc⟩
     · simp at hal
     rcases acc with _ | ⟨a1, acc⟩
     · simp at hal
     rcases acc with _ | ⟨a2, acc⟩
     · simp at hal
     rcases acc with _ | ⟨a3, acc⟩
     · simp at hal
     rcases acc with _ | ⟨a4, acc⟩
     · simp at hal
     rcases acc with _ | ⟨a5, acc⟩
     · simp at hal
     rcases acc with _ | ⟨a6, acc⟩
     · simp at hal
     obtain rfl : acc = [] := List.eq_nil_of_length_eq_zero (by simpa using hal)
     clear hal
     have HRn := Aside0.mk (show RT 67 wb [(w2.heap.size, .cells #[.int .u64 a0, .int .u64 a1, .int .u64 a2, .int .u64 a3, .int .u64 a4, .int .u64 a5, .int .u64 a6, .int .u64 0, .int .u64 0] 54 (0, 0)), (w.heap.size, .cells #[.int .i64 0, .int .u64 0, .bool false, .int .u64 0, .int .u64 0, .int .u64 0, .bool false, .int .u64 0, .int .u64 0] 29 (0, 0))] g bb l sh wr from HR.out)
     have h := HGO.out
     rw [show ether_TakeArp.tab.drop 7 = (6, 0) :: ether_TakeArp.tab.drop 8 from rfl, ether_TakeArp.go] at h
     obtain ⟨⟨n, ok⟩, hn, h⟩ := Option.bind_eq_some_iff.1 h
     have HNN := Aside0.mk (show octet_Get.f k l 0 6 = some (n, ok) from hn)
     clear hn HGO HR
     have HWR := Aside0.mk (show wb.heap.size ≤ wr.heap.size from HRn.out.below.size)
     have HNE := Aside0.mk (show wr.heap.size ≠ w2.heap.size by have h_ := (HRn.out.keep _ (List.mem_cons_self ..)).1; have := (Array.getElem?_eq_some_iff.1 h_).1; simp only at this; omega)
     go_upto_region 7 with (fail)
     obtain ⟨W5, hW5⟩ : ∃ W5, wr.alloc (.cells #[.int .i64 6, .int .u64 0] 56) = W5 := ⟨_, rfl⟩
     rw [hW5]
     have HR5 := Aside0.mk (show RT 67 wb [(wr.heap.size, .cells #[.int .i64 6, .int .u64 0] 56 (0, 0)), (w2.heap.size, .cells #[.int .u64 a0, .int .u64 a1, .int .u64 a2, .int .u64 a3, .int .u64 a4, .int .u64 a5, .int .u64 a6, .int .u64 0, .int .u64 0] 54 (0, 0)), (w.heap.size, .cells #[.int .i64 0, .int .u64 0, .bool false, .int .u64 0, .int .u64 0, .int .u64 0, .bool false, .int .u64 0, .int .u64 0] 29 (0, 0))] g bb l sh W5 by rw [← hW5]; exact HRn.out.alloc _)
     clear hW5 HRn
     obtain ⟨f0, f1⟩ := MBlk.c2 (HR5.out.keep _ (List.mem_cons_self ..)).1
     have zn := HR5.out.free 7 (List.mem_cons_of_mem _ (List.mem_cons_self ..))
     by_cases hok : sh = false ∧ ok = true
     · obtain ⟨rfl, rfl⟩ := hok
       rw [if_pos ⟨rfl, rfl⟩] at h
       split at h
       case isFalse => cases h
       rename_i hle
       have HLE := Aside0.mk hle; have H := Aside0.mk h
       clear hle h
       go_wp2_with fail
       refine Calls.mono (ether_TakeArp.ok HR5.out HNN.out (by decide) HLE.out) ?_
       rintro e w6 ⟨rfl, hrs⟩
       have HR6 := Aside0.mk (show RT 67 wb [(wr.heap.size, .cells #[.int .i64 6, .int .u64 0] 56 (0, 0)), (w2.heap.size, .cells #[.int .u64 a0, .int .u64 a1, .int .u64 a2, .int .u64 a3, .int .u64 a4, .int .u64 a5, .int .u64 a6, .int .u64 0, .int .u64 0] 54 (0, 0)), (w.heap.size, .cells #[.int .i64 0, .int .u64 0, .bool false, .int .u64 0, .int .u64 0, .int .u64 0, .bool false, .int .u64 0, .int .u64 0] 29 (0, 0))] g bb (l.drop 6) false w6 from hrs)
       have zn6 := HR6.out.free 7 (List.mem_cons_of_mem _ (List.mem_cons_self ..))
       have yn6 := HR6.out.cell (j := 7) (List.mem_cons_of_mem _ (List.mem_cons_self ..)) rfl
       clear hrs HR5 f0 f1 zn
       go_upto_region 8 with (fail)
       obtain ⟨W7, hW7⟩ : ∃ W7, w6.setCell ⟨w2.heap.size, 7, none⟩ (.int .u64 n) = W7 := ⟨_, rfl⟩
       rw [hW7]
       have HR7 := Aside0.mk (show RT 67 wb [(w2.heap.size, .cells #[.int .u64 a0, .int .u64 a1, .int .u64 a2, .int .u64 a3, .int .u64 a4, .int .u64 a5, .int .u64 a6, .int .u64 n, .int .u64 0] 54 (0, 0)), (wr.heap.size, .cells #[.int .i64 6, .int .u64 0] 56 (0, 0)), (w.heap.size, .cells #[.int .i64 0, .int .u64 0, .bool false, .int .u64 0, .int .u64 0, .int .u64 0, .bool false, .int .u64 0, .int .u64 0] 29 (0, 0))] g bb (l.drop 6) false W7 by
        rw [← hW7]
        refine RT.set (cs := #[.int .u64 a0, .int .u64 a1, .int .u64 a2, .int .u64 a3, .int .u64 a4, .int .u64 a5, .int .u64 a6, .int .u64 0, .int .u64 0]) (HR6.out.sub (bs2 := [(w2.heap.size, .cells #[.int .u64 a0, .int .u64 a1, .int .u64 a2, .int .u64 a3, .int .u64 a4, .int .u64 a5, .int .u64 a6, .int .u64 0, .int .u64 0] 54 (0, 0)), (wr.heap.size, .cells #[.int .i64 6, .int .u64 0] 56 (0, 0)), (w.heap.size, .cells #[.int .i64 0, .int .u64 0, .bool false, .int .u64 0, .int .u64 0, .int .u64 0, .bool false, .int .u64 0, .int .u64 0] 29 (0, 0))]) (by intro q hq; simp only [List.mem_cons, List.not_mem_nil, or_false] at hq ⊢; rcases hq with rfl | rfl | rfl <;> simp)) HGE.out (by
         intro q hq
         simp only [List.mem_cons, List.not_mem_nil, or_false] at hq
         rcases hq with rfl | rfl
         · exact HNE.out
         · have := HGE.out; have := HWS.out; simp only; omega) 7 (.int .u64 n))
       clear hW7 HR6 yn6 zn6
       obtain ⟨f0, f1⟩ := MBlk.c2 (HR7.out.keep _ (List.mem_cons_of_mem _ (List.mem_cons_self ..))).1
       have yn := HR7.out.cell (j := 7) (List.mem_cons_self ..) rfl
       have yn' : W7.cell? ⟨w2.heap.size, 7, none⟩ = some (.int .u64 n) := yn
       clear yn
       cases fit with
       | false =>
        have e : (false && (((0 : Int) == 0) || (n == 0))) = false := by simp
        replace H := Aside0.mk (show ether_TakeArp.go k (ether_TakeArp.tab.drop 8) [a0, a1, a2, a3, a4, a5, a6, n] (l.drop 6) false false = some x by have h_ := H.out; rw [e] at h_; exact h_)
        go_region
        all_goals go_wp2_with fail
        go_roundg d
        case measure => omega
        case rel => exact ⟨8, [a0, a1, a2, a3, a4, a5, a6, n], _, _, false, rfl, rfl, ⟨by have := HI.out; omega⟩, ⟨rfl⟩, H, ⟨((HR7.out.more (below_drew1 (Below.refl _ _))).sub (bs2 := [(w2.heap.size, .cells #[.int .u64 a0, .int .u64 a1, .int .u64 a2, .int .u64 a3, .int .u64 a4, .int .u64 a5, .int .u64 a6, .int .u64 n, .int .u64 0] 54 (0, 0)), (w.heap.size, .cells #[.int .i64 0, .int .u64 0, .bool false, .int .u64 0, .int .u64 0, .int .u64 0, .bool false, .int .u64 0, .int .u64 0] 29 (0, 0))]) (by intro q hq; simp only [List.mem_cons, List.not_mem_nil, or_false] at hq ⊢; rcases hq with rfl | rfl <;> simp))⟩⟩
       | true =>
        have e : (true && (((0 : Int) == 0) || (n == 0))) = true := by simp
        replace H := Aside0.mk (show ether_TakeArp.go k (ether_TakeArp.tab.drop 8) [a0, a1, a2, a3, a4, a5, a6, n] (l.drop 6) false true = some x by have h_ := H.out; rw [e] at h_; exact h_)
        go_region
        all_goals go_wp2_with fail
        go_roundg d
        case measure => omega
        case rel => exact ⟨8, [a0, a1, a2, a3, a4, a5, a6, n], _, _, true, rfl, rfl, ⟨by have := HI.out; omega⟩, ⟨rfl⟩, H, ⟨((HR7.out.more (below_drew1 (Below.refl _ _))).sub (bs2 := [(w2.heap.size, .cells #[.int .u64 a0, .int .u64 a1, .int .u64 a2, .int .u64 a3, .int .u64 a4, .int .u64 a5, .int .u64 a6, .int .u64 n, .int .u64 0] 54 (0, 0)), (w.heap.size, .cells #[.int .i64 0, .int .u64 0, .bool false, .int .u64 0, .int .u64 0, .int .u64 0, .bool false, .int .u64 0, .int .u64 0] 29 (0, 0))]) (by intro q hq; simp only [List.mem_cons, List.not_mem_nil, or_false] at hq ⊢; rcases hq with rfl | rfl <;> simp))⟩⟩
     · rw [if_neg hok] at h
       have H := Aside0.mk h; have HOK := Aside0.mk hok
       clear h hok
       go_wp2_with fail
       refine Calls.mono (ether_TakeArp.bad HR5.out HNN.out HOK.out) ?_
       rintro e w6 ⟨rfl, hrs⟩
       have HR6 := Aside0.mk (show RT 67 wb [(wr.heap.size, .cells #[.int .i64 6, .int .u64 0] 56 (0, 0)), (w2.heap.size, .cells #[.int .u64 a0, .int .u64 a1, .int .u64 a2, .int .u64 a3, .int .u64 a4, .int .u64 a5, .int .u64 a6, .int .u64 0, .int .u64 0] 54 (0, 0)), (w.heap.size, .cells #[.int .i64 0, .int .u64 0, .bool false, .int .u64 0, .int .u64 0, .int .u64 0, .bool false, .int .u64 0, .int .u64 0] 29 (0, 0))] g bb [] true w6 from hrs)
       have zn6 := HR6.out.free 7 (List.mem_cons_of_mem _ (List.mem_cons_self ..))
       have yn6 := HR6.out.cell (j := 7) (List.mem_cons_of_mem _ (List.mem_cons_self ..)) rfl
       clear hrs HR5 f0 f1 zn
       go_upto_region 8 with (fail)
       obtain ⟨W7, hW7⟩ : ∃ W7, w6.setCell ⟨w2.heap.size, 7, none⟩ (.int .u64 0) = W7 := ⟨_, rfl⟩
       rw [hW7]
       have HR7 := Aside0.mk (show RT 67 wb [(w2.heap.size, .cells #[.int .u64 a0, .int .u64 a1, .int .u64 a2, .int .u64 a3, .int .u64 a4, .int .u64 a5, .int .u64 a6, .int .u64 0, .int .u64 0] 54 (0, 0)), (wr.heap.size, .cells #[.int .i64 6, .int .u64 0] 56 (0, 0)), (w.heap.size, .cells #[.int .i64 0, .int .u64 0, .bool false, .int .u64 0, .int .u64 0, .int .u64 0, .bool false, .int .u64 0, .int .u64 0] 29 (0, 0))] g bb [] true W7 by
        rw [← hW7]
        refine RT.set (cs := #[.int .u64 a0, .int .u64 a1, .int .u64 a2, .int .u64 a3, .int .u64 a4, .int .u64 a5, .int .u64 a6, .int .u64 0, .int .u64 0]) (HR6.out.sub (bs2 := [(w2.heap.size, .cells #[.int .u64 a0, .int .u64 a1, .int .u64 a2, .int .u64 a3, .int .u64 a4, .int .u64 a5, .int .u64 a6, .int .u64 0, .int .u64 0] 54 (0, 0)), (wr.heap.size, .cells #[.int .i64 6, .int .u64 0] 56 (0, 0)), (w.heap.size, .cells #[.int .i64 0, .int .u64 0, .bool false, .int .u64 0, .int .u64 0, .int .u64 0, .bool false, .int .u64 0, .int .u64 0] 29 (0, 0))]) (by intro q hq; simp only [List.mem_cons, List.not_mem_nil, or_false] at hq ⊢; rcases hq with rfl | rfl | rfl <;> simp)) HGE.out (by
         intro q hq
         simp only [List.mem_cons, List.not_mem_nil, or_false] at hq
         rcases hq with rfl | rfl
         · exact HNE.out
         · have := HGE.out; have := HWS.out; simp only; omega) 7 (.int .u64 0))
       clear hW7 HR6 yn6 zn6
       obtain ⟨f0, f1⟩ := MBlk.c2 (HR7.out.keep _ (List.mem_cons_of_mem _ (List.mem_cons_self ..))).1
       have yn := HR7.out.cell (j := 7) (List.mem_cons_self ..) rfl
       have yn' : W7.cell? ⟨w2.heap.size, 7, none⟩ = some (.int .u64 0) := yn
       clear yn
       cases fit with
       | false =>
        have e : (false && (((0 : Int) == 0) || ((0 : Int) == 0))) = false := by simp
        replace H := Aside0.mk (show ether_TakeArp.go k (ether_TakeArp.tab.drop 8) [a0, a1, a2, a3, a4, a5, a6, 0] [] true false = some x by have h_ := H.out; rw [e] at h_; exact h_)
        go_region
        all_goals go_wp2_with fail
        go_roundg d
        case measure => omega
        case rel => exact ⟨8, [a0, a1, a2, a3, a4, a5, a6, 0], _, _, false, rfl, rfl, ⟨by have := HI.out; omega⟩, ⟨rfl⟩, H, ⟨((HR7.out.more (below_drew1 (Below.refl _ _))).sub (bs2 := [(w2.heap.size, .cells #[.int .u64 a0, .int .u64 a1, .int .u64 a2, .int .u64 a3, .int .u64 a4, .int .u64 a5, .int .u64 a6, .int .u64 0, .int .u64 0] 54 (0, 0)), (w.heap.size, .cells #[.int .i64 0, .int .u64 0, .bool false, .int .u64 0, .int .u64 0, .int .u64 0, .bool false, .int .u64 0, .int .u64 0] 29 (0, 0))]) (by intro q hq; simp only [List.mem_cons, List.not_mem_nil, or_false] at hq ⊢; rcases hq with rfl | rfl <;> simp))⟩⟩
       | true =>
        have e : (true && (((0 : Int) == 0) || ((0 : Int) == 0))) = true := by simp
        replace H := Aside0.mk (show ether_TakeArp.go k (ether_TakeArp.tab.drop 8) [a0, a1, a2, a3, a4, a5, a6, 0] [] true true = some x by have h_ := H.out; rw [e] at h_; exact h_)
        go_region
        all_goals go_wp2_with fail
        go_roundg d
        case measure => omega
        case rel => exact ⟨8, [a0, a1, a2, a3, a4, a5, a6, 0], _, _, true, rfl, rfl, ⟨by have := HI.out; omega⟩, ⟨rfl⟩, H, ⟨((HR7.out.more (below_drew1 (Below.refl _ _))).sub (bs2 := [(w2.heap.size, .cells #[.int .u64 a0, .int .u64 a1, .int .u64 a2, .int .u64 a3, .int .u64 a4, .int .u64 a5, .int .u64 a6, .int .u64 0, .int .u64 0] 54 (0, 0)), (w.heap.size, .cells #[.int .i64 0, .int .u64 0, .bool false, .int .u64 0, .int .u64 0, .int .u64 0, .bool false, .int .u64 0, .int .u64 0] 29 (0, 0))]) (by intro q hq; simp only [List.mem_cons, List.not_mem_nil, or_false] at hq ⊢; rcases hq with rfl | rfl <;> simp))⟩⟩
   ·
     clear hi
     rcases acc with _ | ⟨a0, acc⟩
     · simp at hal
     rcases acc with _ | ⟨a1, acc⟩
     · simp at hal
     rcases acc with _ | ⟨a2, acc⟩
     · simp at hal
     rcases acc with _ | ⟨a3, acc⟩
     · simp at hal
     rcases acc with _ | ⟨a4, acc⟩
     · simp at hal
     rcases acc with _ | ⟨a5, acc⟩
     · simp at hal
     rcases acc with _ | ⟨a6, acc⟩
     · simp at hal
     rcases acc with _ | ⟨a7, acc⟩
     · simp at hal
     obtain rfl : acc = [] := List.eq_nil_of_length_eq_zero (by simpa using hal)
     clear hal
     have HRn := Aside0.mk (show RT 67 wb [(w2.heap.size, .cells #[.int .u64 a0, .int .u64 a1, .int .u64 a2, .int .u64 a3, .int .u64 a4, .int .u64 a5, .int .u64 a6, .int .u64 a7, .int .u64 0] 54 (0, 0)), (w.heap.size, .cells #[.int .i64 0, .int .u64 0, .bool false, .int .u64 0, .int .u64 0, .int .u64 0, .bool false, .int .u64 0, .int .u64 0] 29 (0, 0))] g bb l sh wr from HR.out)
     have h := HGO.out
     rw [show ether_TakeArp.tab.drop 8 = (4, 0) :: ether_TakeArp.tab.drop 9 from rfl, ether_TakeArp.go] at h
     obtain ⟨⟨n, ok⟩, hn, h⟩ := Option.bind_eq_some_iff.1 h
     have HNN := Aside0.mk (show octet_Get.f k l 0 4 = some (n, ok) from hn)
     clear hn HGO HR
     have HWR := Aside0.mk (show wb.heap.size ≤ wr.heap.size from HRn.out.below.size)
     have HNE := Aside0.mk (show wr.heap.size ≠ w2.heap.size by have h_ := (HRn.out.keep _ (List.mem_cons_self ..)).1; have := (Array.getElem?_eq_some_iff.1 h_).1; simp only at this; omega)
     go_upto_region 7 with (fail)
     obtain ⟨W5, hW5⟩ : ∃ W5, wr.alloc (.cells #[.int .i64 4, .int .u64 0] 56) = W5 := ⟨_, rfl⟩
     rw [hW5]
     have HR5 := Aside0.mk (show RT 67 wb [(wr.heap.size, .cells #[.int .i64 4, .int .u64 0] 56 (0, 0)), (w2.heap.size, .cells #[.int .u64 a0, .int .u64 a1, .int .u64 a2, .int .u64 a3, .int .u64 a4, .int .u64 a5, .int .u64 a6, .int .u64 a7, .int .u64 0] 54 (0, 0)), (w.heap.size, .cells #[.int .i64 0, .int .u64 0, .bool false, .int .u64 0, .int .u64 0, .int .u64 0, .bool false, .int .u64 0, .int .u64 0] 29 (0, 0))] g bb l sh W5 by rw [← hW5]; exact HRn.out.alloc _)
     clear hW5 HRn
     obtain ⟨f0, f1⟩ := MBlk.c2 (HR5.out.keep _ (List.mem_cons_self ..)).1
     have zn := HR5.out.free 8 (List.mem_cons_of_mem _ (List.mem_cons_self ..))
     by_cases hok : sh = false ∧ ok = true
     · obtain ⟨rfl, rfl⟩ := hok
       rw [if_pos ⟨rfl, rfl⟩] at h
       split at h
       case isFalse => cases h
       rename_i hle
       have HLE := Aside0.mk hle; have H := Aside0.mk h
       clear hle h
       go_wp2_with fail
       refine Calls.mono (ether_TakeArp.ok HR5.out HNN.out (by decide) HLE.out) ?_
       rintro e w6 ⟨rfl, hrs⟩
       have HR6 := Aside0.mk (show RT 67 wb [(wr.heap.size, .cells #[.int .i64 4, .int .u64 0] 56 (0, 0)), (w2.heap.size, .cells #[.int .u64 a0, .int .u64 a1, .int .u64 a2, .int .u64 a3, .int .u64 a4, .int .u64 a5, .int .u64 a6, .int .u64 a7, .int .u64 0] 54 (0, 0)), (w.heap.size, .cells #[.int .i64 0, .int .u64 0, .bool false, .int .u64 0, .int .u64 0, .int .u64 0, .bool false, .int .u64 0, .int .u64 0] 29 (0, 0))] g bb (l.drop 4) false w6 from hrs)
       have zn6 := HR6.out.free 8 (List.mem_cons_of_mem _ (List.mem_cons_self ..))
       have yn6 := HR6.out.cell (j := 8) (List.mem_cons_of_mem _ (List.mem_cons_self ..)) rfl
       clear hrs HR5 f0 f1 zn
       go_upto_region 8 with (fail)
       obtain ⟨W7, hW7⟩ : ∃ W7, w6.setCell ⟨w2.heap.size, 8, none⟩ (.int .u64 n) = W7 := ⟨_, rfl⟩
       rw [hW7]
       have HR7 := Aside0.mk (show RT 67 wb [(w2.heap.size, .cells #[.int .u64 a0, .int .u64 a1, .int .u64 a2, .int .u64 a3, .int .u64 a4, .int .u64 a5, .int .u64 a6, .int .u64 a7, .int .u64 n] 54 (0, 0)), (wr.heap.size, .cells #[.int .i64 4, .int .u64 0] 56 (0, 0)), (w.heap.size, .cells #[.int .i64 0, .int .u64 0, .bool false, .int .u64 0, .int .u64 0, .int .u64 0, .bool false, .int .u64 0, .int .u64 0] 29 (0, 0))] g bb (l.drop 4) false W7 by
        rw [← hW7]
        refine RT.set (cs := #[.int .u64 a0, .int .u64 a1, .int .u64 a2, .int .u64 a3, .int .u64 a4, .int .u64 a5, .int .u64 a6, .int .u64 a7, .int .u64 0]) (HR6.out.sub (bs2 := [(w2.heap.size, .cells #[.int .u64 a0, .int .u64 a1, .int .u64 a2, .int .u64 a3, .int .u64 a4, .int .u64 a5, .int .u64 a6, .int .u64 a7, .int .u64 0] 54 (0, 0)), (wr.heap.size, .cells #[.int .i64 4, .int .u64 0] 56 (0, 0)), (w.heap.size, .cells #[.int .i64 0, .int .u64 0, .bool false, .int .u64 0, .int .u64 0, .int .u64 0, .bool false, .int .u64 0, .int .u64 0] 29 (0, 0))]) (by intro q hq; simp only [List.mem_cons, List.not_mem_nil, or_false] at hq ⊢; rcases hq with rfl | rfl | rfl <;> simp)) HGE.out (by
         intro q hq
         simp only [List.mem_cons, List.not_mem_nil, or_false] at hq
         rcases hq with rfl | rfl
         · exact HNE.out
         · have := HGE.out; have := HWS.out; simp only; omega) 8 (.int .u64 n))
       clear hW7 HR6 yn6 zn6
       obtain ⟨f0, f1⟩ := MBlk.c2 (HR7.out.keep _ (List.mem_cons_of_mem _ (List.mem_cons_self ..))).1
       have yn := HR7.out.cell (j := 8) (List.mem_cons_self ..) rfl
       have yn' : W7.cell? ⟨w2.heap.size, 8, none⟩ = some (.int .u64 n) := yn
       clear yn
       cases fit with
       | false =>
        have e : (false && (((0 : Int) == 0) || (n == 0))) = false := by simp
        replace H := Aside0.mk (show ether_TakeArp.go k (ether_TakeArp.tab.drop 9) [a0, a1, a2, a3, a4, a5, a6, a7, n] (l.drop 4) false false = some x by have h_ := H.out; rw [e] at h_; exact h_)
        go_region
        all_goals go_wp2_with fail
        go_roundg d
        case measure => omega
        case rel => exact ⟨9, [a0, a1, a2, a3, a4, a5, a6, a7, n], _, _, false, rfl, rfl, ⟨by have := HI.out; omega⟩, ⟨rfl⟩, H, ⟨((HR7.out.more (below_drew1 (Below.refl _ _))).sub (bs2 := [(w2.heap.size, .cells #[.int .u64 a0, .int .u64 a1, .int .u64 a2, .int .u64 a3, .int .u64 a4, .int .u64 a5, .int .u64 a6, .int .u64 a7, .int .u64 n] 54 (0, 0)), (w.heap.size, .cells #[.int .i64 0, .int .u64 0, .bool false, .int .u64 0, .int .u64 0, .int .u64 0, .bool false, .int .u64 0, .int .u64 0] 29 (0, 0))]) (by intro q hq; simp only [List.mem_cons, List.not_mem_nil, or_false] at hq ⊢; rcases hq with rfl | rfl <;> simp))⟩⟩
       | true =>
        have e : (true && (((0 : Int) == 0) || (n == 0))) = true := by simp
        replace H := Aside0.mk (show ether_TakeArp.go k (ether_TakeArp.tab.drop 9) [a0, a1, a2, a3, a4, a5, a6, a7, n] (l.drop 4) false true = some x by have h_ := H.out; rw [e] at h_; exact h_)
        go_region
        all_goals go_wp2_with fail
        go_roundg d
        case measure => omega
        case rel => exact ⟨9, [a0, a1, a2, a3, a4, a5, a6, a7, n], _, _, true, rfl, rfl, ⟨by have := HI.out; omega⟩, ⟨rfl⟩, H, ⟨((HR7.out.more (below_drew1 (Below.refl _ _))).sub (bs2 := [(w2.heap.size, .cells #[.int .u64 a0, .int .u64 a1, .int .u64 a2, .int .u64 a3, .int .u64 a4, .int .u64 a5, .int .u64 a6, .int .u64 a7, .int .u64 n] 54 (0, 0)), (w.heap.size, .cells #[.int .i64 0, .int .u64 0, .bool false, .int .u64 0, .int .u64 0, .int .u64 0, .bool false, .int .u64 0, .int .u64 0] 29 (0, 0))]) (by intro q hq; simp only [List.mem_cons, List.not_mem_nil, or_false] at hq ⊢; rcases hq with rfl | rfl <;> simp))⟩⟩
     · rw [if_neg hok] at h
       have H := Aside0.mk h; have HOK := Aside0.mk hok
       clear h hok
       go_wp2_with fail
       refine Calls.mono (ether_TakeArp.bad HR5.out HNN.out HOK.out) ?_
       rintro e w6 ⟨rfl, hrs⟩
       have HR6 := Aside0.mk (show RT 67 wb [(wr.heap.size, .cells #[.int .i64 4, .int .u64 0] 56 (0, 0)), (w2.heap.size, .cells #[.int .u64 a0, .int .u64 a1, .int .u64 a2, .int .u64 a3, .int .u64 a4, .int .u64 a5, .int .u64 a6, .int .u64 a7, .int .u64 0] 54 (0, 0)), (w.heap.size, .cells #[.int .i64 0, .int .u64 0, .bool false, .int .u64 0, .int .u64 0, .int .u64 0, .bool false, .int .u64 0, .int .u64 0] 29 (0, 0))] g bb [] true w6 from hrs)
       have zn6 := HR6.out.free 8 (List.mem_cons_of_mem _ (List.mem_cons_self ..))
       have yn6 := HR6.out.cell (j := 8) (List.mem_cons_of_mem _ (List.mem_cons_self ..)) rfl
       clear hrs HR5 f0 f1 zn
       go_upto_region 8 with (fail)
       obtain ⟨W7, hW7⟩ : ∃ W7, w6.setCell ⟨w2.heap.size, 8, none⟩ (.int .u64 0) = W7 := ⟨_, rfl⟩
       rw [hW7]
       have HR7 := Aside0.mk (show RT 67 wb [(w2.heap.size, .cells #[.int .u64 a0, .int .u64 a1, .int .u64 a2, .int .u64 a3, .int .u64 a4, .int .u64 a5, .int .u64 a6, .int .u64 a7, .int .u64 0] 54 (0, 0)), (wr.heap.size, .cells #[.int .i64 4, .int .u64 0] 56 (0, 0)), (w.heap.size, .cells #[.int .i64 0, .int .u64 0, .bool false, .int .u64 0, .int .u64 0, .int .u64 0, .bool false, .int .u64 0, .int .u64 0] 29 (0, 0))] g bb [] true W7 by
        rw [← hW7]
        refine RT.set (cs := #[.int .u64 a0, .int .u64 a1, .int .u64 a2, .int .u64 a3, .int .u64 a4, .int .u64 a5, .int .u64 a6, .int .u64 a7, .int .u64 0]) (HR6.out.sub (bs2 := [(w2.heap.size, .cells #[.int .u64 a0, .int .u64 a1, .int .u64 a2, .int .u64 a3, .int .u64 a4, .int .u64 a5, .int .u64 a6, .int .u64 a7, .int .u64 0] 54 (0, 0)), (wr.heap.size, .cells #[.int .i64 4, .int .u64 0] 56 (0, 0)), (w.heap.size, .cells #[.int .i64 0, .int .u64 0, .bool false, .int .u64 0, .int .u64 0, .int .u64 0, .bool false, .int .u64 0, .int .u64 0] 29 (0, 0))]) (by intro q hq; simp only [List.mem_cons, List.not_mem_nil, or_false] at hq ⊢; rcases hq with rfl | rfl | rfl <;> simp)) HGE.out (by
         intro q hq
         simp only [List.mem_cons, List.not_mem_nil, or_false] at hq
         rcases hq with rfl | rfl
         · exact HNE.out
         · have := HGE.out; have := HWS.out; simp only; omega) 8 (.int .u64 0))
       clear hW7 HR6 yn6 zn6
       obtain ⟨f0, f1⟩ := MBlk.c2 (HR7.out.keep _ (List.mem_cons_of_mem _ (List.mem_cons_self ..))).1
       have yn := HR7.out.cell (j := 8) (List.mem_cons_self ..) rfl
       have yn' : W7.cell? ⟨w2.heap.size, 8, none⟩ = some (.int .u64 0) := yn
       clear yn
       cases fit with
       | false =>
        have e : (false && (((0 : Int) == 0) || ((0 : Int) == 0))) = false := by simp
        replace H := Aside0.mk (show ether_TakeArp.go k (ether_TakeArp.tab.drop 9) [a0, a1, a2, a3, a4, a5, a6, a7, 0] [] true false = some x by have h_ := H.out; rw [e] at h_; exact h_)
        go_region
        all_goals go_wp2_with fail
        go_roundg d
        case measure => omega
        case rel => exact ⟨9, [a0, a1, a2, a3, a4, a5, a6, a7, 0], _, _, false, rfl, rfl, ⟨by have := HI.out; omega⟩, ⟨rfl⟩, H, ⟨((HR7.out.more (below_drew1 (Below.refl _ _))).sub (bs2 := [(w2.heap.size, .cells #[.int .u64 a0, .int .u64 a1, .int .u64 a2, .int .u64 a3, .int .u64 a4, .int .u64 a5, .int .u64 a6, .int .u64 a7, .int .u64 0] 54 (0, 0)), (w.heap.size, .cells #[.int .i64 0, .int .u64 0, .bool false, .int .u64 0, .int .u64 0, .int .u64 0, .bool false, .int .u64 0, .int .u64 0] 29 (0, 0))]) (by intro q hq; simp only [List.mem_cons, List.not_mem_nil, or_false] at hq ⊢; rcases hq with rfl | rfl <;> simp))⟩⟩
       | true =>
        have e : (true && (((0 : Int) == 0) || ((0 : Int) == 0))) = true := by simp
        replace H := Aside0.mk (show ether_TakeArp.go k (ether_TakeArp.tab.drop 9) [a0, a1, a2, a3, a4, a5, a6, a7, 0] [] true true = some x by have h_ := H.out; rw [e] at h_; exact h_)
        go_region
        all_goals go_wp2_with fail
        go_roundg d
        case measure => omega
        case rel => exact ⟨9, [a0, a1, a2, a3, a4, a5, a6, a7, 0], _, _, true, rfl, rfl, ⟨by have := HI.out; omega⟩, ⟨rfl⟩, H, ⟨((HR7.out.more (below_drew1 (Below.refl _ _))).sub (bs2 := [(w2.heap.size, .cells #[.int .u64 a0, .int .u64 a1, .int .u64 a2, .int .u64 a3, .int .u64 a4, .int .u64 a5, .int .u64 a6, .int .u64 a7, .int .u64 0] 54 (0, 0)), (w.heap.size, .cells #[.int .i64 0, .int .u64 0, .bool false, .int .u64 0, .int .u64 0, .int .u64 0, .bool false, .int .u64 0, .int .u64 0] 29 (0, 0))]) (by intro q hq; simp only [List.mem_cons, List.not_mem_nil, or_false] at hq ⊢; rcases hq with rfl | rfl <;> simp))⟩⟩
theorem ether_TakeArp.calls (k : Nat) (a0 : ByteArray) (r1 r2 : Int) (r3 : Bool) (r4 r5 r6 : Int) (r7 : Bool) (r8 r9 r10 : Int) (w : World) (h : ether_TakeArp.f k a0 = some (r1, r2, r3, r4, r5, r6, r7, r8, r9, r10)) (hg : ether_Glob w) :
  Calls Tryd.prog 17 #[.string a0] w fun e w' => e = .returned (.tuple #[.agg #[.int .i64 r1, .int .u64 r2, .bool r3, .int .u64 r4, .int .u64 r5, .int .u64 r6, .bool r7, .int .u64 r8, .int .u64 r9], .int .i64 r10]) ∧ Below w.heap.size w w' := by
 unfold ether_TakeArp.f at h
 split at h
 · cases h
 rename_i hb
 obtain ⟨x, hx, hf⟩ := Option.bind_eq_some_iff.1 h
 exact ether_TakeArp.main k a0 x _ w hg (by omega) hx hf

end Go.Proofs.YthajbaheejdoaaaDoor.PBase
