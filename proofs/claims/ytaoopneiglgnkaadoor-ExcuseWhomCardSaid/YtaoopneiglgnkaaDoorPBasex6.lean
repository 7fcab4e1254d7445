/- Functions of the program as Lean functions, each with a proof that a call comes to what it says. Conditions: those of each theorem. Laid by a program of this session. -/
import Derived.Test.YtaoopneiglgnkaaDoorPBasex0
import Derived.Test.YtaoopneiglgnkaaDoorPBasex1
import Derived.Test.YtaoopneiglgnkaaDoorPBasex4
import Derived.Test.YtaoopneiglgnkaaDoorPBasex5
namespace Go.Proofs.YtaoopneiglgnkaaDoor.PBase
open Go.RowKit Go.Proofs.YtaoopneiglgnkaaDoor Go.Proofs.YtaoopneiglgnkaaDoorW.PrintWords Go.Proofs.YtaoopneiglgnkaaDoorW.PrintLast Go.Proofs.YtaoopneiglgnkaaDoorW.PrintMore
attribute [local go_sem] max2_int min2_int max_two min_two max_three min_three max_four min_four   -- for this text's walks alone
set_option linter.unusedVariables false
set_option linter.unusedSimpArgs false

attribute [local go_sem high] eqA28
/-! ### ip6_Take: function 18 (by hand) -/
/-- A number that is there. -/
def ip6_Take.num (k : Nat) (l : List Int) (w : Int) : Option Int := (octet_Get.f k l 0 w).bind fun n => if n.2 = true then some n.1 else none
theorem ip6_Take.num_get {k : Nat} {l : List Int} {w n : Int} (h : ip6_Take.num k l w = some n) : octet_Get.f k l 0 w = some (n, true) := by
 unfold ip6_Take.num at h
 obtain ⟨⟨a, b⟩, h1, h2⟩ := Option.bind_eq_some_iff.1 h
 split at h2
 · rename_i hb
   injection h2 with h2
   simp only at hb h2
   rw [h1, hb, h2]
 · cases h2
theorem ip6_Take.num_mono (l : List Int) (w : Int) (k : Nat) : LeO (ip6_Take.num k l w) (ip6_Take.num (k + 1) l w) := by
 unfold ip6_Take.num
 exact LeO.bind (octet_Get.mono _ _ _ _) (fun _ => LeO.refl _)
/-- Nothing, and why. -/
def ip6_Take.no (e : Int) : Int × Int × Int × Int × Bool × Int × Int × Bool × Int × Int × ByteArray × Int := (0, 0, 0, 0, false, 0, 0, false, 0, 0, ⟨#[]⟩, e)
def ip6_Take.f (k : Nat) (s : ByteArray) : Option (Int × Int × Int × Int × Bool × Int × Int × Bool × Int × Int × ByteArray × Int) :=
 if (s.size : Int) < 40 then some (ip6_Take.no 61) else if 281474976710656 < s.size then none else if ¬ bt s 0 / 16 = 6 then some (ip6_Take.no 60) else
 (ip6_Take.num k (bytesOf (s.extract 0 40)) 4).bind fun a => (ip6_Take.num k ((bytesOf (s.extract 0 40)).drop 4) 2).bind fun b =>
 if ¬ (0 ≤ a ∧ a ≤ 4294967295 ∧ 0 ≤ b ∧ b ≤ 65535) then none else
 if (s.size : Int) - 40 < b then some (ip6_Take.no 61) else
 (ip6_Take.num k ((bytesOf (s.extract 0 40)).drop 6) 1).bind fun c => (ip6_Take.num k ((bytesOf (s.extract 0 40)).drop 7) 1).bind fun d =>
 if ¬ (0 ≤ c ∧ c ≤ 255 ∧ 0 ≤ d ∧ d ≤ 255) then none else
 (ip6_Take.num k ((bytesOf (s.extract 0 40)).drop 8) 8).bind fun x1 => (ip6_Take.num k ((bytesOf (s.extract 0 40)).drop 16) 8).bind fun x2 =>
 (ip6_Take.num k ((bytesOf (s.extract 0 40)).drop 24) 8).bind fun x3 => (ip6_Take.num k ((bytesOf (s.extract 0 40)).drop 32) 8).bind fun x4 =>
 some (Go.bits .and .i64 (a / 1048576) 255, Go.bits .and .i64 a 1048575, c, d, true, x1, x2, true, x3, x4, s.extract 40 (40 + b).toNat, 0)
/-- A reader at work, and blocks beside it that its calls do not touch; nothing below wb has changed. -/
structure RS (T : Nat) (wb : World) (bs : List (Nat × Obj)) (g b : Nat) (l : List Int) (W : World) : Prop where mk ::
 (rd : MReader.Rdr T W g b l false)
 (keep : ∀ x ∈ bs, W.heap[x.1]? = some x.2 ∧ x.1 ≠ g ∧ x.1 ≠ b)
 (below : Below wb.heap.size wb W)
 (ge : wb.heap.size ≤ g)
section
variable {T g b : Nat} {wb W W2 : World} {bs : List (Nat × Obj)} {l l2 : List Int}
theorem RS.num (h : RS T wb bs g b l W) (hgr : W.grownBy W2 (some g)) (hr : MReader.Rdr T W2 g b l2 false) : RS T wb bs g b l2 W2 :=
 ⟨hr, fun x hx => by
  obtain ⟨h1, h2, h3⟩ := h.keep x hx
  exact ⟨(hgr.block _ (Array.getElem?_eq_some_iff.1 h1).1 (fun e => h2 (by injection e))).trans h1, h2, h3⟩, MReader.below_grown h.below hgr h.ge h.below.size, h.ge⟩
theorem RS.more (h : RS T wb bs g b l W) (hb : Below W.heap.size W W2) : RS T wb bs g b l W2 :=
 ⟨h.rd.below hb, fun x hx => by
  obtain ⟨h1, h2, h3⟩ := h.keep x hx
  exact ⟨MStr.block_below h1 hb, h2, h3⟩, below_then h.below h.below.size hb, h.ge⟩
theorem RS.alloc (h : RS T wb bs g b l W) (o : Obj) : RS T wb ((W.heap.size, o) :: bs) g b l (W.alloc o) := by
 have h2 := h.more (W2 := W.alloc o) (below_alloc (Below.refl _ _) o)
 refine ⟨h2.rd, fun x hx => ?_, h2.below, h2.ge⟩
 rcases List.mem_cons.1 hx with rfl | hx
 · exact ⟨heap_alloc_new W o, by have := h.rd.glt; simp only; omega, by have := h.rd.lt; simp only; omega⟩
 · exact h2.keep x hx
theorem RS.set {gp t : Nat} {cs : Array Value} (h : RS T wb ((gp, .cells cs t (0, 0)) :: bs) g b l W) (hge : wb.heap.size ≤ gp) (hne : ∀ x ∈ bs, x.1 ≠ gp) (j : Nat) (v : Value) :
  RS T wb ((gp, .cells (cs.setIfInBounds j v) t (0, 0)) :: bs) g b l (W.setCell ⟨gp, j, none⟩ v) := by
 obtain ⟨h1, h2, h3⟩ := h.keep _ (List.mem_cons_self ..)
 have hot : ∀ q, q ≠ gp → (W.setCell ⟨gp, j, none⟩ v).heap[q]? = W.heap[q]? := fun q hq => Below.heap_setCell W ⟨gp, j, none⟩ v q hq
 refine ⟨h.rd.keep (hot g (fun e => h2 e.symm)) (hot b (fun e => h3 e.symm)) (by simp [World.setCell]), fun x hx => ?_, below_set h.below hge, h.ge⟩
 rcases List.mem_cons.1 hx with rfl | hx
 · exact ⟨MReader.setCell_heap h1, h2, h3⟩
 · obtain ⟨k1, k2, k3⟩ := h.keep x (List.mem_cons_of_mem _ hx)
   exact ⟨(hot _ (hne x hx)).trans k1, k2, k3⟩
theorem RS.cell (h : RS T wb bs g b l W) {gp t j : Nat} {cs : Array Value} {v : Value} (hm : (gp, Obj.cells cs t (0, 0)) ∈ bs) (hj : cs[j]? = some v) : W.cell? ⟨gp, j, none⟩ = some v := MStr.block_cell (h.keep _ hm).1 hj
theorem RS.free (h : RS T wb bs g b l W) {gp t : Nat} (j : Nat) {cs : Array Value} (hm : (gp, Obj.cells cs t (0, 0)) ∈ bs) : W.frozen? ⟨gp, j, none⟩ = false := MStr.block_frozen (h.keep _ hm).1
end

theorem RS.set' {T g b gp t : Nat} {wb W : World} {bs : List (Nat × Obj)} {l : List Int} {cs cs2 : Array Value} (h : RS T wb ((gp, .cells cs t (0, 0)) :: bs) g b l W) (hge : wb.heap.size ≤ gp) (hne : ∀ x ∈ bs, x.1 ≠ gp) (j : Nat) (v : Value) (he : cs.setIfInBounds j v = cs2) :
  RS T wb ((gp, .cells cs2 t (0, 0)) :: bs) g b l (W.setCell ⟨gp, j, none⟩ v) := he ▸ h.set hge hne j v
theorem ip6_Take.rs {bs : List (Nat × Obj)} {wb W : World} {g b : Nat} {l : List Int} (h : RS 105 wb bs g b l W) {k : Nat} {width n : Int} (hg : octet_Get.f k l 0 width = some (n, true)) (h0 : 0 ≤ width) (h1 : width ≤ (l.length : Int)) :
  Calls Tryd.prog 44 #[.pointer (some ⟨g, 0, none⟩), .int .i64 width] W fun e w' => e = .returned (.int .u64 n) ∧ RS 105 wb bs g b (l.drop width.toNat) w' :=
 (octet_Reader_Num.ok k g b l width n W h.rd hg h0 h1).mono fun _ _ ⟨he, hr, hgr⟩ => ⟨he, h.num hgr hr⟩
set_option maxHeartbeats 2000000 in
set_option maxRecDepth 100000 in
theorem ip6_Take.good (k : Nat) (s : ByteArray) (a b c d x1 x2 x3 x4 : Int) (w : World) (h40 : 40 ≤ s.size) (hbig : s.size ≤ 281474976710656) (h6 : bt s 0 / 16 = 6)
  (ha : ip6_Take.num k (bytesOf (s.extract 0 40)) 4 = some a) (hb : ip6_Take.num k ((bytesOf (s.extract 0 40)).drop 4) 2 = some b) (ra : 0 ≤ a ∧ a ≤ 4294967295) (rb : 0 ≤ b ∧ b ≤ 65535) (hn : b ≤ (s.size : Int) - 40)
  (hc : ip6_Take.num k ((bytesOf (s.extract 0 40)).drop 6) 1 = some c) (hd : ip6_Take.num k ((bytesOf (s.extract 0 40)).drop 7) 1 = some d) (rc : 0 ≤ c ∧ c ≤ 255) (rd : 0 ≤ d ∧ d ≤ 255)
  (h1 : ip6_Take.num k ((bytesOf (s.extract 0 40)).drop 8) 8 = some x1) (h2 : ip6_Take.num k ((bytesOf (s.extract 0 40)).drop 16) 8 = some x2) (h3 : ip6_Take.num k ((bytesOf (s.extract 0 40)).drop 24) 8 = some x3) (h4 : ip6_Take.num k ((bytesOf (s.extract 0 40)).drop 32) 8 = some x4) :
  Calls Tryd.prog 18 #[.string s] w fun e w' => e = .returned (.tuple #[.agg #[.int .i64 (Go.bits .and .i64 (a / 1048576) 255), .int .i64 (Go.bits .and .i64 a 1048575), .int .i64 c, .int .i64 d, .bool true, .int .u64 x1, .int .u64 x2, .bool true, .int .u64 x3, .int .u64 x4, .string (s.extract 40 (40 + b).toNat)], .int .i64 0]) ∧ Below w.heap.size w w' := by
 obtain ⟨L, hL⟩ : ∃ L, bytesOf (s.extract 0 40) = L := ⟨_, rfl⟩
 have hlen : L.length = 40 := by rw [← hL, bytesOf_length]; simp; omega
 rw [hL] at ha hb hc hd h1 h2 h3 h4
 have HLE := Aside0.mk hL; have HN := Aside0.mk hlen
 have HA := Aside0.mk (ip6_Take.num_get ha); have HBn := Aside0.mk (ip6_Take.num_get hb); have HCn := Aside0.mk (ip6_Take.num_get hc); have HDn := Aside0.mk (ip6_Take.num_get hd)
 have H1 := Aside0.mk (ip6_Take.num_get h1); have H2 := Aside0.mk (ip6_Take.num_get h2); have H3 := Aside0.mk (ip6_Take.num_get h3); have H4 := Aside0.mk (ip6_Take.num_get h4)
 clear ha hb hc hd h1 h2 h3 h4 hL hlen
 obtain ⟨a0, a1⟩ := ra; obtain ⟨b0, b1⟩ := rb; obtain ⟨c0, c1⟩ := rc; obtain ⟨d0, d1⟩ := rd
 obtain ⟨wb, hwb⟩ : ∃ wb, w.alloc (.cells #[.int .i64 0, .int .i64 0, .int .i64 0, .int .i64 0, .bool false, .int .u64 0, .int .u64 0, .bool false, .int .u64 0, .int .u64 0, .string ⟨#[]⟩] 45) = wb := ⟨_, rfl⟩
 have HBW := Aside0.mk (show Below w.heap.size w wb by rw [← hwb]; exact below_alloc (Below.refl _ _) _)
 have HWS := Aside0.mk (show wb.heap.size = w.heap.size + 1 by rw [← hwb]; simp [go_sem])
 have HX := Aside0.mk (show wb.heap[w.heap.size]? = some (.cells #[.int .i64 0, .int .i64 0, .int .i64 0, .int .i64 0, .bool false, .int .u64 0, .int .u64 0, .bool false, .int .u64 0, .int .u64 0, .string ⟨#[]⟩] 45 (0, 0)) by rw [← hwb]; exact heap_alloc_new _ _)
 have hu26 := Tryd.underlying45
 have hu24 := Tryd.underlying28
 have kb := fun s W => print_bytes (P := Tryd.prog) 9 70 5 Tryd.underlying9 Tryd.underlying70 Tryd.underlying5 s W
 have hx0 : ∀ h : 0 < s.size, ((s[0]'h).toNat : Int) = bt s 0 := bt_at s 0
 have r0 := (bt_range s 0).1; have r1 := (bt_range s 0).2
 have hq0 : 0 < s.size := by omega
 have hi0 : ((0 : Int) < (s.size : Int)) = True := eq_true (by omega)
 have hi40 : ((40 : Int) ≤ (s.size : Int)) = True := eq_true (by omega)
 have e40 : (s.extract 0 40).size = 40 := by simp; omega
 have m40 : min 40 s.size = 40 := by omega
 go_enter Tryd.func18, Tryd.ntmps18
 go_wp2_with fail
 clear hwb
 have hC := MStr.C_bytes wb 5 (s.extract 0 40) (by rw [e40]; decide)
 rw [HLE.out, e40] at hC
 have hcall := octet_New.calls (some ⟨wb.heap.size, 0, none⟩) (grownCap wb 40 0 5) L (Lib.bytesWorld wb 5 (s.extract 0 40)) (by rw [HN.out]; exact hC) (by rw [HN.out]; exact grownCap_ge _ _ _ _) (by rw [HN.out]; decide)
 rw [HN.out] at hcall
 clear hC kb
 refine hcall.mono ?_
 rintro e w2 ⟨g, bb, rfl, hrd, hg, hbb, hb⟩
 have hbw : Below wb.heap.size wb (Lib.bytesWorld wb 5 (s.extract 0 40)) := bytes_below (Below.refl _ _) (Nat.le_refl _) _ _
 have hsz : (Lib.bytesWorld wb 5 (s.extract 0 40)).heap.size = wb.heap.size + 1 := Lib.bytesWorld_size _ _ _
 have HRS := Aside0.mk (show RS 105 wb [(w.heap.size, .cells #[.int .i64 0, .int .i64 0, .int .i64 0, .int .i64 0, .bool false, .int .u64 0, .int .u64 0, .bool false, .int .u64 0, .int .u64 0, .string ⟨#[]⟩] 45 (0, 0))] g bb L w2 from ⟨hrd, fun x hx => by
  obtain rfl := List.mem_singleton.1 hx
  exact ⟨MStr.block_below HX.out (below_step hbw hb), by have := HWS.out; simp only; omega, by have := HWS.out; simp only; omega⟩, below_step hbw hb, by omega⟩)
 clear hcall hrd hg hbb hb hbw hsz HX e40 m40
 go_wp2_with fail
 refine (ip6_Take.rs HRS.out HA.out (by decide) (by rw [HN.out]; decide)).mono ?_
 rintro e w3 ⟨rfl, hrs⟩
 replace HRS := Aside0.mk (show RS 105 wb _ g bb (L.drop 4) w3 from hrs)
 clear hrs
 go_wp2_with fail
 refine (ip6_Take.rs HRS.out HBn.out (by decide) (by rw [List.length_drop, HN.out]; decide)).mono ?_
 rintro e w4 ⟨rfl, hrs⟩
 replace HRS := Aside0.mk (show RS 105 wb _ g bb (L.drop 6) w4 by have := hrs; rw [show (2 : Int).toNat = 2 from rfl, List.drop_drop] at this; exact this)
 clear hrs
 have hnb : (b ≤ (s.size : Int) - 40) := hn
 have e1 : IntKind.i64.wrap (40 + b) = 40 + b := by simp only [i64_w]; unfold wrap64; omega
 have g1 : ((40 : Int) ≤ 40 + b) = True := eq_true (by omega)
 have g2 : (40 + b ≤ (s.size : Int)) = True := eq_true (by omega)
 have g3 : (0 ≤ 40 + b) = True := eq_true (by omega)
 have ewc : IntKind.i64.wrap c = c := by simp only [i64_w]; unfold wrap64; omega
 have ewd : IntKind.i64.wrap d = d := by simp only [i64_w]; unfold wrap64; omega
 have HW4 := Aside0.mk (show wb.heap.size ≤ w4.heap.size from HRS.out.below.size)
 go_upto_region 10 with (fail)
 go_cut [7] (fun v7 wc => ∃ gp : Nat, v7 = .pointer (some ⟨gp, 0, none⟩) ∧ Aside0 (RS 105 wb [(gp, .cells #[.int .i64 (Go.bits .and .i64 (a / 1048576) 255), .int .i64 (Go.bits .and .i64 a 1048575), .int .i64 c, .int .i64 d, .bool false, .int .u64 0, .int .u64 0, .bool false, .int .u64 0, .int .u64 0, .string (s.extract 40 (40 + b).toNat)] 45 (0, 0)), (w.heap.size, .cells #[.int .i64 0, .int .i64 0, .int .i64 0, .int .i64 0, .bool false, .int .u64 0, .int .u64 0, .bool false, .int .u64 0, .int .u64 0, .string ⟨#[]⟩] 45 (0, 0))] g bb (L.drop 8) wc) ∧ Aside0 (wb.heap.size ≤ gp))
 case first =>
   go_region_held3 (fun w' => True) (trivial) (first | (go_at_call 44; refine (ip6_Take.rs (HRS.out.more (below_drew1 (Below.refl _ _))) HCn.out (by decide) (by rw [List.length_drop, HN.out]; decide)).mono ?_; rintro e w5 ⟨rfl, hrs⟩; have HW5 := Aside0.mk hrs.below.size; have HRT := Aside0.mk (show RS 105 wb _ g bb (L.drop 7) w5 by have := hrs; rw [show (1 : Int).toNat = 1 from rfl, List.drop_drop] at this; exact this); clear hrs HRS) | (go_at_call 44; refine (ip6_Take.rs ((HRS.out.alloc (.cells #[.int .i64 0, .int .i64 0, .int .i64 0, .int .i64 0, .bool false, .int .u64 0, .int .u64 0, .bool false, .int .u64 0, .int .u64 0, .string ⟨#[]⟩] 45)).more (below_drew1 (Below.refl _ _))) HCn.out (by decide) (by rw [List.length_drop, HN.out]; decide)).mono ?_; rintro e w5 ⟨rfl, hrs⟩; have HW5 := Aside0.mk hrs.below.size; have HRT := Aside0.mk (show RS 105 wb _ g bb (L.drop 7) w5 by have := hrs; rw [show (1 : Int).toNat = 1 from rfl, List.drop_drop] at this; exact this); clear hrs HRS) | (go_at_call 44; refine (ip6_Take.rs HRT.out HDn.out (by decide) (by rw [List.length_drop, HN.out]; decide)).mono ?_; rintro e w6 ⟨rfl, hrs⟩; have y0 := hrs.cell (j := 0) (List.mem_cons_self ..) rfl; have z0 := hrs.free 0 (List.mem_cons_self ..); have y1 := hrs.cell (j := 1) (List.mem_cons_self ..) rfl; have z1 := hrs.free 1 (List.mem_cons_self ..); have y2 := hrs.cell (j := 2) (List.mem_cons_self ..) rfl; have z2 := hrs.free 2 (List.mem_cons_self ..); have y3 := hrs.cell (j := 3) (List.mem_cons_self ..) rfl; have z3 := hrs.free 3 (List.mem_cons_self ..); have y4 := hrs.cell (j := 4) (List.mem_cons_self ..) rfl; have z4 := hrs.free 4 (List.mem_cons_self ..); have y5 := hrs.cell (j := 5) (List.mem_cons_self ..) rfl; have z5 := hrs.free 5 (List.mem_cons_self ..); have y6 := hrs.cell (j := 6) (List.mem_cons_self ..) rfl; have z6 := hrs.free 6 (List.mem_cons_self ..); have y7 := hrs.cell (j := 7) (List.mem_cons_self ..) rfl; have z7 := hrs.free 7 (List.mem_cons_self ..); have y8 := hrs.cell (j := 8) (List.mem_cons_self ..) rfl; have z8 := hrs.free 8 (List.mem_cons_self ..); have y9 := hrs.cell (j := 9) (List.mem_cons_self ..) rfl; have z9 := hrs.free 9 (List.mem_cons_self ..); have y10 := hrs.cell (j := 10) (List.mem_cons_self ..) rfl; have z10 := hrs.free 10 (List.mem_cons_self ..); have HRU := Aside0.mk (show RS 105 wb _ g bb (L.drop 8) w6 by have := hrs; rw [show (1 : Int).toNat = 1 from rfl, List.drop_drop] at this; exact this); clear hrs HRT) | (go_at_call 44; refine (ip6_Take.rs (HRT.out.alloc (.cells #[.int .i64 0, .int .i64 0, .int .i64 0, .int .i64 0, .bool false, .int .u64 0, .int .u64 0, .bool false, .int .u64 0, .int .u64 0, .string ⟨#[]⟩] 45)) HDn.out (by decide) (by rw [List.length_drop, HN.out]; decide)).mono ?_; rintro e w6 ⟨rfl, hrs⟩; have y0 := hrs.cell (j := 0) (List.mem_cons_self ..) rfl; have z0 := hrs.free 0 (List.mem_cons_self ..); have y1 := hrs.cell (j := 1) (List.mem_cons_self ..) rfl; have z1 := hrs.free 1 (List.mem_cons_self ..); have y2 := hrs.cell (j := 2) (List.mem_cons_self ..) rfl; have z2 := hrs.free 2 (List.mem_cons_self ..); have y3 := hrs.cell (j := 3) (List.mem_cons_self ..) rfl; have z3 := hrs.free 3 (List.mem_cons_self ..); have y4 := hrs.cell (j := 4) (List.mem_cons_self ..) rfl; have z4 := hrs.free 4 (List.mem_cons_self ..); have y5 := hrs.cell (j := 5) (List.mem_cons_self ..) rfl; have z5 := hrs.free 5 (List.mem_cons_self ..); have y6 := hrs.cell (j := 6) (List.mem_cons_self ..) rfl; have z6 := hrs.free 6 (List.mem_cons_self ..); have y7 := hrs.cell (j := 7) (List.mem_cons_self ..) rfl; have z7 := hrs.free 7 (List.mem_cons_self ..); have y8 := hrs.cell (j := 8) (List.mem_cons_self ..) rfl; have z8 := hrs.free 8 (List.mem_cons_self ..); have y9 := hrs.cell (j := 9) (List.mem_cons_self ..) rfl; have z9 := hrs.free 9 (List.mem_cons_self ..); have y10 := hrs.cell (j := 10) (List.mem_cons_self ..) rfl; have z10 := hrs.free 10 (List.mem_cons_self ..); have HRU := Aside0.mk (show RS 105 wb _ g bb (L.drop 8) w6 by have := hrs; rw [show (1 : Int).toNat = 1 from rfl, List.drop_drop] at this; exact this); clear hrs HRT))
   · go_wp2
     go_meet
     case rel => exact ⟨_, rfl, ⟨HRU.out.alloc _⟩, ⟨HRU.out.below.size⟩⟩
   · go_wp2
     go_meet
     case rel =>
      have HGE := HW5.out
      have HNE : ∀ x ∈ [(w.heap.size, Obj.cells #[.int .i64 0, .int .i64 0, .int .i64 0, .int .i64 0, .bool false, .int .u64 0, .int .u64 0, .bool false, .int .u64 0, .int .u64 0, .string ⟨#[]⟩] 45 (0, 0))], x.1 ≠ w5.heap.size := by
       intro x hx; obtain rfl := List.mem_singleton.1 hx; have := HWS.out; simp only; omega
      exact ⟨_, rfl, ⟨(RS.set' (cs2 := #[.int .i64 (Go.bits .and .i64 (a / 1048576) 255), .int .i64 (Go.bits .and .i64 a 1048575), .int .i64 c, .int .i64 d, .bool false, .int .u64 0, .int .u64 0, .bool false, .int .u64 0, .int .u64 0, .string (s.extract 40 (40 + b).toNat)]) (RS.set' (cs2 := #[.int .i64 (Go.bits .and .i64 (a / 1048576) 255), .int .i64 (Go.bits .and .i64 a 1048575), .int .i64 c, .int .i64 d, .bool false, .int .u64 0, .int .u64 0, .bool false, .int .u64 0, .int .u64 0, .string ⟨#[]⟩]) (RS.set' (cs2 := #[.int .i64 (Go.bits .and .i64 (a / 1048576) 255), .int .i64 (Go.bits .and .i64 a 1048575), .int .i64 c, .int .i64 d, .bool false, .int .u64 0, .int .u64 0, .bool false, .int .u64 0, .int .u64 0, .string ⟨#[]⟩]) (RS.set' (cs2 := #[.int .i64 (Go.bits .and .i64 (a / 1048576) 255), .int .i64 (Go.bits .and .i64 a 1048575), .int .i64 c, .int .i64 d, .bool false, .int .u64 0, .int .u64 0, .bool false, .int .u64 0, .int .u64 0, .string ⟨#[]⟩]) (RS.set' (cs2 := #[.int .i64 (Go.bits .and .i64 (a / 1048576) 255), .int .i64 (Go.bits .and .i64 a 1048575), .int .i64 c, .int .i64 d, .bool false, .int .u64 0, .int .u64 0, .bool false, .int .u64 0, .int .u64 0, .string ⟨#[]⟩]) (RS.set' (cs2 := #[.int .i64 (Go.bits .and .i64 (a / 1048576) 255), .int .i64 (Go.bits .and .i64 a 1048575), .int .i64 c, .int .i64 d, .bool false, .int .u64 0, .int .u64 0, .bool false, .int .u64 0, .int .u64 0, .string ⟨#[]⟩]) (RS.set' (cs2 := #[.int .i64 (Go.bits .and .i64 (a / 1048576) 255), .int .i64 (Go.bits .and .i64 a 1048575), .int .i64 c, .int .i64 d, .bool false, .int .u64 0, .int .u64 0, .bool false, .int .u64 0, .int .u64 0, .string ⟨#[]⟩]) (RS.set' (cs2 := #[.int .i64 (Go.bits .and .i64 (a / 1048576) 255), .int .i64 (Go.bits .and .i64 a 1048575), .int .i64 c, .int .i64 d, .bool false, .int .u64 0, .int .u64 0, .bool false, .int .u64 0, .int .u64 0, .string ⟨#[]⟩]) (RS.set' (cs2 := #[.int .i64 (Go.bits .and .i64 (a / 1048576) 255), .int .i64 (Go.bits .and .i64 a 1048575), .int .i64 c, .int .i64 0, .bool false, .int .u64 0, .int .u64 0, .bool false, .int .u64 0, .int .u64 0, .string ⟨#[]⟩]) (RS.set' (cs2 := #[.int .i64 (Go.bits .and .i64 (a / 1048576) 255), .int .i64 (Go.bits .and .i64 a 1048575), .int .i64 0, .int .i64 0, .bool false, .int .u64 0, .int .u64 0, .bool false, .int .u64 0, .int .u64 0, .string ⟨#[]⟩]) (RS.set' (cs2 := #[.int .i64 (Go.bits .and .i64 (a / 1048576) 255), .int .i64 0, .int .i64 0, .int .i64 0, .bool false, .int .u64 0, .int .u64 0, .bool false, .int .u64 0, .int .u64 0, .string ⟨#[]⟩]) HRU.out HGE HNE 0 _ rfl) HGE HNE 1 _ rfl) HGE HNE 2 _ rfl) HGE HNE 3 _ rfl) HGE HNE 4 _ rfl) HGE HNE 5 _ rfl) HGE HNE 6 _ rfl) HGE HNE 7 _ rfl) HGE HNE 8 _ rfl) HGE HNE 9 _ rfl) HGE HNE 10 _ rfl)⟩, ⟨HGE⟩⟩
   · go_wp2
     go_meet
     case rel =>
      have HGE := HW4.out
      have HNE : ∀ x ∈ [(w.heap.size, Obj.cells #[.int .i64 0, .int .i64 0, .int .i64 0, .int .i64 0, .bool false, .int .u64 0, .int .u64 0, .bool false, .int .u64 0, .int .u64 0, .string ⟨#[]⟩] 45 (0, 0))], x.1 ≠ w4.heap.size := by
       intro x hx; obtain rfl := List.mem_singleton.1 hx; have := HWS.out; simp only; omega
      exact ⟨_, rfl, ⟨(RS.set' (cs2 := #[.int .i64 (Go.bits .and .i64 (a / 1048576) 255), .int .i64 (Go.bits .and .i64 a 1048575), .int .i64 c, .int .i64 d, .bool false, .int .u64 0, .int .u64 0, .bool false, .int .u64 0, .int .u64 0, .string (s.extract 40 (40 + b).toNat)]) (RS.set' (cs2 := #[.int .i64 (Go.bits .and .i64 (a / 1048576) 255), .int .i64 (Go.bits .and .i64 a 1048575), .int .i64 c, .int .i64 d, .bool false, .int .u64 0, .int .u64 0, .bool false, .int .u64 0, .int .u64 0, .string ⟨#[]⟩]) (RS.set' (cs2 := #[.int .i64 (Go.bits .and .i64 (a / 1048576) 255), .int .i64 (Go.bits .and .i64 a 1048575), .int .i64 c, .int .i64 d, .bool false, .int .u64 0, .int .u64 0, .bool false, .int .u64 0, .int .u64 0, .string ⟨#[]⟩]) (RS.set' (cs2 := #[.int .i64 (Go.bits .and .i64 (a / 1048576) 255), .int .i64 (Go.bits .and .i64 a 1048575), .int .i64 c, .int .i64 d, .bool false, .int .u64 0, .int .u64 0, .bool false, .int .u64 0, .int .u64 0, .string ⟨#[]⟩]) (RS.set' (cs2 := #[.int .i64 (Go.bits .and .i64 (a / 1048576) 255), .int .i64 (Go.bits .and .i64 a 1048575), .int .i64 c, .int .i64 d, .bool false, .int .u64 0, .int .u64 0, .bool false, .int .u64 0, .int .u64 0, .string ⟨#[]⟩]) (RS.set' (cs2 := #[.int .i64 (Go.bits .and .i64 (a / 1048576) 255), .int .i64 (Go.bits .and .i64 a 1048575), .int .i64 c, .int .i64 d, .bool false, .int .u64 0, .int .u64 0, .bool false, .int .u64 0, .int .u64 0, .string ⟨#[]⟩]) (RS.set' (cs2 := #[.int .i64 (Go.bits .and .i64 (a / 1048576) 255), .int .i64 (Go.bits .and .i64 a 1048575), .int .i64 c, .int .i64 d, .bool false, .int .u64 0, .int .u64 0, .bool false, .int .u64 0, .int .u64 0, .string ⟨#[]⟩]) (RS.set' (cs2 := #[.int .i64 (Go.bits .and .i64 (a / 1048576) 255), .int .i64 (Go.bits .and .i64 a 1048575), .int .i64 c, .int .i64 d, .bool false, .int .u64 0, .int .u64 0, .bool false, .int .u64 0, .int .u64 0, .string ⟨#[]⟩]) (RS.set' (cs2 := #[.int .i64 (Go.bits .and .i64 (a / 1048576) 255), .int .i64 (Go.bits .and .i64 a 1048575), .int .i64 c, .int .i64 0, .bool false, .int .u64 0, .int .u64 0, .bool false, .int .u64 0, .int .u64 0, .string ⟨#[]⟩]) (RS.set' (cs2 := #[.int .i64 (Go.bits .and .i64 (a / 1048576) 255), .int .i64 (Go.bits .and .i64 a 1048575), .int .i64 0, .int .i64 0, .bool false, .int .u64 0, .int .u64 0, .bool false, .int .u64 0, .int .u64 0, .string ⟨#[]⟩]) (RS.set' (cs2 := #[.int .i64 (Go.bits .and .i64 (a / 1048576) 255), .int .i64 0, .int .i64 0, .int .i64 0, .bool false, .int .u64 0, .int .u64 0, .bool false, .int .u64 0, .int .u64 0, .string ⟨#[]⟩]) HRU.out HGE HNE 0 _ rfl) HGE HNE 1 _ rfl) HGE HNE 2 _ rfl) HGE HNE 3 _ rfl) HGE HNE 4 _ rfl) HGE HNE 5 _ rfl) HGE HNE 6 _ rfl) HGE HNE 7 _ rfl) HGE HNE 8 _ rfl) HGE HNE 9 _ rfl) HGE HNE 10 _ rfl)⟩, ⟨HGE⟩⟩
 case rest =>
  clear HRS
  obtain ⟨gp, rfl, HRS, HGP⟩ := hcut
  have HGE := HGP.out
  have HNE : ∀ x ∈ [(w.heap.size, Obj.cells #[.int .i64 0, .int .i64 0, .int .i64 0, .int .i64 0, .bool false, .int .u64 0, .int .u64 0, .bool false, .int .u64 0, .int .u64 0, .string ⟨#[]⟩] 45 (0, 0))], x.1 ≠ gp := by
   intro x hx; obtain rfl := List.mem_singleton.1 hx; have := HWS.out; simp only; omega
  have AGE := Aside0.mk HGE; have ANE := Aside0.mk HNE
  clear HGE HNE HGP ewc ewd e1 g1 g2 g3 hx0 hq0 hi0 hi40
  go_wp2_with fail
  refine (ip6_Take.rs HRS.out H1.out (by decide) (by rw [List.length_drop, HN.out]; decide)).mono ?_
  rintro e w7 ⟨rfl, hrs⟩
  replace HRS := Aside0.mk (show RS 105 wb _ g bb (L.drop 16) w7 by have := hrs; rw [show (8 : Int).toNat = 8 from rfl, List.drop_drop] at this; exact this)
  clear hrs
  go_wp2_with fail
  refine (ip6_Take.rs HRS.out H2.out (by decide) (by rw [List.length_drop, HN.out]; decide)).mono ?_
  rintro e w8 ⟨rfl, hrs⟩
  replace HRS := Aside0.mk (show RS 105 wb _ g bb (L.drop 24) w8 by have := hrs; rw [show (8 : Int).toNat = 8 from rfl, List.drop_drop] at this; exact this)
  clear hrs
  have y4 := HRS.out.cell (j := 4) (List.mem_cons_self ..) rfl
  have z4 := HRS.out.free 4 (List.mem_cons_self ..)
  have y5 := HRS.out.cell (j := 5) (List.mem_cons_self ..) rfl
  have z5 := HRS.out.free 5 (List.mem_cons_self ..)
  have y6 := HRS.out.cell (j := 6) (List.mem_cons_self ..) rfl
  have z6 := HRS.out.free 6 (List.mem_cons_self ..)
  go_wp2_with fail
  clear y4 y5 y6 z4 z5 z6
  have HGE := AGE.out; have HNE := ANE.out
  replace HRS := Aside0.mk (RS.set' (cs2 := #[.int .i64 (Go.bits .and .i64 (a / 1048576) 255), .int .i64 (Go.bits .and .i64 a 1048575), .int .i64 c, .int .i64 d, .bool true, .int .u64 x1, .int .u64 x2, .bool false, .int .u64 0, .int .u64 0, .string (s.extract 40 (40 + b).toNat)]) (RS.set' (cs2 := #[.int .i64 (Go.bits .and .i64 (a / 1048576) 255), .int .i64 (Go.bits .and .i64 a 1048575), .int .i64 c, .int .i64 d, .bool true, .int .u64 x1, .int .u64 0, .bool false, .int .u64 0, .int .u64 0, .string (s.extract 40 (40 + b).toNat)]) (RS.set' (cs2 := #[.int .i64 (Go.bits .and .i64 (a / 1048576) 255), .int .i64 (Go.bits .and .i64 a 1048575), .int .i64 c, .int .i64 d, .bool true, .int .u64 0, .int .u64 0, .bool false, .int .u64 0, .int .u64 0, .string (s.extract 40 (40 + b).toNat)]) HRS.out HGE HNE 4 _ rfl) HGE HNE 5 _ rfl) HGE HNE 6 _ rfl)
  clear HGE HNE
  refine (ip6_Take.rs HRS.out H3.out (by decide) (by rw [List.length_drop, HN.out]; decide)).mono ?_
  rintro e w9 ⟨rfl, hrs⟩
  replace HRS := Aside0.mk (show RS 105 wb _ g bb (L.drop 32) w9 by have := hrs; rw [show (8 : Int).toNat = 8 from rfl, List.drop_drop] at this; exact this)
  clear hrs
  go_wp2_with fail
  refine (ip6_Take.rs HRS.out H4.out (by decide) (by rw [List.length_drop, HN.out]; decide)).mono ?_
  rintro e w10 ⟨rfl, hrs⟩
  replace HRS := Aside0.mk (show RS 105 wb _ g bb (L.drop 40) w10 by have := hrs; rw [show (8 : Int).toNat = 8 from rfl, List.drop_drop] at this; exact this)
  clear hrs
  have y7 := HRS.out.cell (j := 7) (List.mem_cons_self ..) rfl
  have z7 := HRS.out.free 7 (List.mem_cons_self ..)
  have y8 := HRS.out.cell (j := 8) (List.mem_cons_self ..) rfl
  have z8 := HRS.out.free 8 (List.mem_cons_self ..)
  have y9 := HRS.out.cell (j := 9) (List.mem_cons_self ..) rfl
  have z9 := HRS.out.free 9 (List.mem_cons_self ..)
  have HGE := AGE.out; have HNE := ANE.out
  have HRV := Aside0.mk (RS.set' (cs2 := #[.int .i64 (Go.bits .and .i64 (a / 1048576) 255), .int .i64 (Go.bits .and .i64 a 1048575), .int .i64 c, .int .i64 d, .bool true, .int .u64 x1, .int .u64 x2, .bool true, .int .u64 x3, .int .u64 x4, .string (s.extract 40 (40 + b).toNat)]) (RS.set' (cs2 := #[.int .i64 (Go.bits .and .i64 (a / 1048576) 255), .int .i64 (Go.bits .and .i64 a 1048575), .int .i64 c, .int .i64 d, .bool true, .int .u64 x1, .int .u64 x2, .bool true, .int .u64 x3, .int .u64 0, .string (s.extract 40 (40 + b).toNat)]) (RS.set' (cs2 := #[.int .i64 (Go.bits .and .i64 (a / 1048576) 255), .int .i64 (Go.bits .and .i64 a 1048575), .int .i64 c, .int .i64 d, .bool true, .int .u64 x1, .int .u64 x2, .bool true, .int .u64 0, .int .u64 0, .string (s.extract 40 (40 + b).toNat)]) HRS.out HGE HNE 7 _ rfl) HGE HNE 8 _ rfl) HGE HNE 9 _ rfl)
  have HRES := Aside0.mk (HRV.out.keep _ (List.mem_cons_of_mem _ (List.mem_cons_self ..))).1
  clear HGE HNE
  have q0 := HRV.out.cell (j := 0) (List.mem_cons_self ..) rfl
  have q1 := HRV.out.cell (j := 1) (List.mem_cons_self ..) rfl
  have q2 := HRV.out.cell (j := 2) (List.mem_cons_self ..) rfl
  have q3 := HRV.out.cell (j := 3) (List.mem_cons_self ..) rfl
  have q4 := HRV.out.cell (j := 4) (List.mem_cons_self ..) rfl
  have q5 := HRV.out.cell (j := 5) (List.mem_cons_self ..) rfl
  have q6 := HRV.out.cell (j := 6) (List.mem_cons_self ..) rfl
  have q7 := HRV.out.cell (j := 7) (List.mem_cons_self ..) rfl
  have q8 := HRV.out.cell (j := 8) (List.mem_cons_self ..) rfl
  have q9 := HRV.out.cell (j := 9) (List.mem_cons_self ..) rfl
  have q10 := HRV.out.cell (j := 10) (List.mem_cons_self ..) rfl
  have f0 := HRV.out.free 0 (List.mem_cons_of_mem _ (List.mem_cons_self ..))
  have r0 := HRV.out.cell (j := 0) (List.mem_cons_of_mem _ (List.mem_cons_self ..)) rfl
  have f1 := HRV.out.free 1 (List.mem_cons_of_mem _ (List.mem_cons_self ..))
  have r1 := HRV.out.cell (j := 1) (List.mem_cons_of_mem _ (List.mem_cons_self ..)) rfl
  have f2 := HRV.out.free 2 (List.mem_cons_of_mem _ (List.mem_cons_self ..))
  have r2 := HRV.out.cell (j := 2) (List.mem_cons_of_mem _ (List.mem_cons_self ..)) rfl
  have f3 := HRV.out.free 3 (List.mem_cons_of_mem _ (List.mem_cons_self ..))
  have r3 := HRV.out.cell (j := 3) (List.mem_cons_of_mem _ (List.mem_cons_self ..)) rfl
  have f4 := HRV.out.free 4 (List.mem_cons_of_mem _ (List.mem_cons_self ..))
  have r4 := HRV.out.cell (j := 4) (List.mem_cons_of_mem _ (List.mem_cons_self ..)) rfl
  have f5 := HRV.out.free 5 (List.mem_cons_of_mem _ (List.mem_cons_self ..))
  have r5 := HRV.out.cell (j := 5) (List.mem_cons_of_mem _ (List.mem_cons_self ..)) rfl
  have f6 := HRV.out.free 6 (List.mem_cons_of_mem _ (List.mem_cons_self ..))
  have r6 := HRV.out.cell (j := 6) (List.mem_cons_of_mem _ (List.mem_cons_self ..)) rfl
  have f7 := HRV.out.free 7 (List.mem_cons_of_mem _ (List.mem_cons_self ..))
  have r7 := HRV.out.cell (j := 7) (List.mem_cons_of_mem _ (List.mem_cons_self ..)) rfl
  have f8 := HRV.out.free 8 (List.mem_cons_of_mem _ (List.mem_cons_self ..))
  have r8 := HRV.out.cell (j := 8) (List.mem_cons_of_mem _ (List.mem_cons_self ..)) rfl
  have f9 := HRV.out.free 9 (List.mem_cons_of_mem _ (List.mem_cons_self ..))
  have r9 := HRV.out.cell (j := 9) (List.mem_cons_of_mem _ (List.mem_cons_self ..)) rfl
  have f10 := HRV.out.free 10 (List.mem_cons_of_mem _ (List.mem_cons_self ..))
  have r10 := HRV.out.cell (j := 10) (List.mem_cons_of_mem _ (List.mem_cons_self ..)) rfl
  go_wp2_with fail
  have HBE := Aside0.mk (below_step HBW.out HRV.out.below)
  have HG0 := Aside0.mk (Nat.le_refl w.heap.size)
  refine bodyPost_ret (results_ct rfl _ _ _ 45 #[.int .i64 (Go.bits .and .i64 (a / 1048576) 255), .int .i64 (Go.bits .and .i64 a 1048575), .int .i64 c, .int .i64 d, .bool true, .int .u64 x1, .int .u64 x2, .bool true, .int .u64 x3, .int .u64 x4, .string (s.extract 40 (40 + b).toNat)] (0, 0) _ rfl (by (with_reducible repeat (first | refine blk_drewN ?_ _ | refine blk_drew ?_ | refine blk_alloc ?_ _)); refine blk_put (cs := #[.int .i64 (Go.bits .and .i64 (a / 1048576) 255), .int .i64 (Go.bits .and .i64 a 1048575), .int .i64 c, .int .i64 d, .bool true, .int .u64 x1, .int .u64 x2, .bool true, .int .u64 x3, .int .u64 x4, .string ⟨#[]⟩]) ?_ 10 _ rfl; (with_reducible repeat (first | refine blk_drewN ?_ _ | refine blk_drew ?_ | refine blk_alloc ?_ _)); refine blk_put (cs := #[.int .i64 (Go.bits .and .i64 (a / 1048576) 255), .int .i64 (Go.bits .and .i64 a 1048575), .int .i64 c, .int .i64 d, .bool true, .int .u64 x1, .int .u64 x2, .bool true, .int .u64 x3, .int .u64 0, .string ⟨#[]⟩]) ?_ 9 _ rfl; (with_reducible repeat (first | refine blk_drewN ?_ _ | refine blk_drew ?_ | refine blk_alloc ?_ _)); refine blk_put (cs := #[.int .i64 (Go.bits .and .i64 (a / 1048576) 255), .int .i64 (Go.bits .and .i64 a 1048575), .int .i64 c, .int .i64 d, .bool true, .int .u64 x1, .int .u64 x2, .bool true, .int .u64 0, .int .u64 0, .string ⟨#[]⟩]) ?_ 8 _ rfl; (with_reducible repeat (first | refine blk_drewN ?_ _ | refine blk_drew ?_ | refine blk_alloc ?_ _)); refine blk_put (cs := #[.int .i64 (Go.bits .and .i64 (a / 1048576) 255), .int .i64 (Go.bits .and .i64 a 1048575), .int .i64 c, .int .i64 d, .bool true, .int .u64 x1, .int .u64 x2, .bool false, .int .u64 0, .int .u64 0, .string ⟨#[]⟩]) ?_ 7 _ rfl; (with_reducible repeat (first | refine blk_drewN ?_ _ | refine blk_drew ?_ | refine blk_alloc ?_ _)); refine blk_put (cs := #[.int .i64 (Go.bits .and .i64 (a / 1048576) 255), .int .i64 (Go.bits .and .i64 a 1048575), .int .i64 c, .int .i64 d, .bool true, .int .u64 x1, .int .u64 0, .bool false, .int .u64 0, .int .u64 0, .string ⟨#[]⟩]) ?_ 6 _ rfl; (with_reducible repeat (first | refine blk_drewN ?_ _ | refine blk_drew ?_ | refine blk_alloc ?_ _)); refine blk_put (cs := #[.int .i64 (Go.bits .and .i64 (a / 1048576) 255), .int .i64 (Go.bits .and .i64 a 1048575), .int .i64 c, .int .i64 d, .bool true, .int .u64 0, .int .u64 0, .bool false, .int .u64 0, .int .u64 0, .string ⟨#[]⟩]) ?_ 5 _ rfl; (with_reducible repeat (first | refine blk_drewN ?_ _ | refine blk_drew ?_ | refine blk_alloc ?_ _)); refine blk_put (cs := #[.int .i64 (Go.bits .and .i64 (a / 1048576) 255), .int .i64 (Go.bits .and .i64 a 1048575), .int .i64 c, .int .i64 d, .bool false, .int .u64 0, .int .u64 0, .bool false, .int .u64 0, .int .u64 0, .string ⟨#[]⟩]) ?_ 4 _ rfl; (with_reducible repeat (first | refine blk_drewN ?_ _ | refine blk_drew ?_ | refine blk_alloc ?_ _)); refine blk_put (cs := #[.int .i64 (Go.bits .and .i64 (a / 1048576) 255), .int .i64 (Go.bits .and .i64 a 1048575), .int .i64 c, .int .i64 0, .bool false, .int .u64 0, .int .u64 0, .bool false, .int .u64 0, .int .u64 0, .string ⟨#[]⟩]) ?_ 3 _ rfl; (with_reducible repeat (first | refine blk_drewN ?_ _ | refine blk_drew ?_ | refine blk_alloc ?_ _)); refine blk_put (cs := #[.int .i64 (Go.bits .and .i64 (a / 1048576) 255), .int .i64 (Go.bits .and .i64 a 1048575), .int .i64 0, .int .i64 0, .bool false, .int .u64 0, .int .u64 0, .bool false, .int .u64 0, .int .u64 0, .string ⟨#[]⟩]) ?_ 2 _ rfl; (with_reducible repeat (first | refine blk_drewN ?_ _ | refine blk_drew ?_ | refine blk_alloc ?_ _)); refine blk_put (cs := #[.int .i64 (Go.bits .and .i64 (a / 1048576) 255), .int .i64 0, .int .i64 0, .int .i64 0, .bool false, .int .u64 0, .int .u64 0, .bool false, .int .u64 0, .int .u64 0, .string ⟨#[]⟩]) ?_ 1 _ rfl; (with_reducible repeat (first | refine blk_drewN ?_ _ | refine blk_drew ?_ | refine blk_alloc ?_ _)); refine blk_put (cs := #[.int .i64 0, .int .i64 0, .int .i64 0, .int .i64 0, .bool false, .int .u64 0, .int .u64 0, .bool false, .int .u64 0, .int .u64 0, .string ⟨#[]⟩]) ?_ 0 _ rfl; (with_reducible repeat (first | refine blk_drewN ?_ _ | refine blk_drew ?_ | refine blk_alloc ?_ _)); exact HRES.out) Tryd.underlying45 rfl (by kernel_rfl)) rfl ?_
  exact ⟨rfl, by repeat (first | (with_reducible first | exact HBE.out | apply below_alloc | apply pw_below_drewN | apply below_drew1 | refine below_set ?_ HG0.out) | exact HBE.out)⟩
set_option maxHeartbeats 2000000 in
set_option maxRecDepth 100000 in
theorem ip6_Take.behind (k : Nat) (s : ByteArray) (a b : Int) (w : World) (h40 : 40 ≤ s.size) (hbig : s.size ≤ 281474976710656) (h6 : bt s 0 / 16 = 6)
  (ha : ip6_Take.num k (bytesOf (s.extract 0 40)) 4 = some a) (hb : ip6_Take.num k ((bytesOf (s.extract 0 40)).drop 4) 2 = some b) (ra : 0 ≤ a ∧ a ≤ 4294967295) (rb : 0 ≤ b ∧ b ≤ 65535) (hn : (s.size : Int) - 40 < b) :
  Calls Tryd.prog 18 #[.string s] w fun e w' => e = .returned (.tuple #[.agg #[.int .i64 0, .int .i64 0, .int .i64 0, .int .i64 0, .bool false, .int .u64 0, .int .u64 0, .bool false, .int .u64 0, .int .u64 0, .string ⟨#[]⟩], .int .i64 61]) ∧ Below w.heap.size w w' := by
 obtain ⟨L, hL⟩ : ∃ L, bytesOf (s.extract 0 40) = L := ⟨_, rfl⟩
 have hlen : L.length = 40 := by rw [← hL, bytesOf_length]; simp; omega
 rw [hL] at ha hb
 have HLE := Aside0.mk hL; have HN := Aside0.mk hlen
 have HA := Aside0.mk (ip6_Take.num_get ha); have HBn := Aside0.mk (ip6_Take.num_get hb)
 clear ha hb hL hlen
 obtain ⟨a0, a1⟩ := ra; obtain ⟨b0, b1⟩ := rb
 obtain ⟨wb, hwb⟩ : ∃ wb, w.alloc (.cells #[.int .i64 0, .int .i64 0, .int .i64 0, .int .i64 0, .bool false, .int .u64 0, .int .u64 0, .bool false, .int .u64 0, .int .u64 0, .string ⟨#[]⟩] 45) = wb := ⟨_, rfl⟩
 have HBW := Aside0.mk (show Below w.heap.size w wb by rw [← hwb]; exact below_alloc (Below.refl _ _) _)
 have HWS := Aside0.mk (show wb.heap.size = w.heap.size + 1 by rw [← hwb]; simp [go_sem])
 have HX := Aside0.mk (show wb.heap[w.heap.size]? = some (.cells #[.int .i64 0, .int .i64 0, .int .i64 0, .int .i64 0, .bool false, .int .u64 0, .int .u64 0, .bool false, .int .u64 0, .int .u64 0, .string ⟨#[]⟩] 45 (0, 0)) by rw [← hwb]; exact heap_alloc_new _ _)
 have hu26 := Tryd.underlying45
 have hu24 := Tryd.underlying28
 have kb := fun s W => print_bytes (P := Tryd.prog) 9 70 5 Tryd.underlying9 Tryd.underlying70 Tryd.underlying5 s W
 have hx0 : ∀ h : 0 < s.size, ((s[0]'h).toNat : Int) = bt s 0 := bt_at s 0
 have r0 := (bt_range s 0).1; have r1 := (bt_range s 0).2
 have hq0 : 0 < s.size := by omega
 have hi0 : ((0 : Int) < (s.size : Int)) = True := eq_true (by omega)
 have hi40 : ((40 : Int) ≤ (s.size : Int)) = True := eq_true (by omega)
 have e40 : (s.extract 0 40).size = 40 := by simp; omega
 have m40 : min 40 s.size = 40 := by omega
 go_enter Tryd.func18, Tryd.ntmps18
 go_wp2_with fail
 clear hwb
 have hC := MStr.C_bytes wb 5 (s.extract 0 40) (by rw [e40]; decide)
 rw [HLE.out, e40] at hC
 have hcall := octet_New.calls (some ⟨wb.heap.size, 0, none⟩) (grownCap wb 40 0 5) L (Lib.bytesWorld wb 5 (s.extract 0 40)) (by rw [HN.out]; exact hC) (by rw [HN.out]; exact grownCap_ge _ _ _ _) (by rw [HN.out]; decide)
 rw [HN.out] at hcall
 clear hC kb
 refine hcall.mono ?_
 rintro e w2 ⟨g, bb, rfl, hrd, hg, hbb, hb⟩
 have hbw : Below wb.heap.size wb (Lib.bytesWorld wb 5 (s.extract 0 40)) := bytes_below (Below.refl _ _) (Nat.le_refl _) _ _
 have hsz : (Lib.bytesWorld wb 5 (s.extract 0 40)).heap.size = wb.heap.size + 1 := Lib.bytesWorld_size _ _ _
 have HRS := Aside0.mk (show RS 105 wb [(w.heap.size, .cells #[.int .i64 0, .int .i64 0, .int .i64 0, .int .i64 0, .bool false, .int .u64 0, .int .u64 0, .bool false, .int .u64 0, .int .u64 0, .string ⟨#[]⟩] 45 (0, 0))] g bb L w2 from ⟨hrd, fun x hx => by
  obtain rfl := List.mem_singleton.1 hx
  exact ⟨MStr.block_below HX.out (below_step hbw hb), by have := HWS.out; simp only; omega, by have := HWS.out; simp only; omega⟩, below_step hbw hb, by omega⟩)
 clear hcall hrd hg hbb hb hbw hsz HX e40 m40
 go_wp2_with fail
 refine (ip6_Take.rs HRS.out HA.out (by decide) (by rw [HN.out]; decide)).mono ?_
 rintro e w3 ⟨rfl, hrs⟩
 replace HRS := Aside0.mk (show RS 105 wb _ g bb (L.drop 4) w3 from hrs)
 clear hrs
 go_wp2_with fail
 refine (ip6_Take.rs HRS.out HBn.out (by decide) (by rw [List.length_drop, HN.out]; decide)).mono ?_
 rintro e w4 ⟨rfl, hrs⟩
 replace HRS := Aside0.mk (show RS 105 wb _ g bb (L.drop 6) w4 by have := hrs; rw [show (2 : Int).toNat = 2 from rfl, List.drop_drop] at this; exact this)
 clear hrs
 have HRES := Aside0.mk (HRS.out.keep _ (List.mem_cons_self ..)).1
 have f0 := HRS.out.free 0 (List.mem_cons_self ..)
 have r0 := HRS.out.cell (j := 0) (List.mem_cons_self ..) rfl
 have f1 := HRS.out.free 1 (List.mem_cons_self ..)
 have r1 := HRS.out.cell (j := 1) (List.mem_cons_self ..) rfl
 have f2 := HRS.out.free 2 (List.mem_cons_self ..)
 have r2 := HRS.out.cell (j := 2) (List.mem_cons_self ..) rfl
 have f3 := HRS.out.free 3 (List.mem_cons_self ..)
 have r3 := HRS.out.cell (j := 3) (List.mem_cons_self ..) rfl
 have f4 := HRS.out.free 4 (List.mem_cons_self ..)
 have r4 := HRS.out.cell (j := 4) (List.mem_cons_self ..) rfl
 have f5 := HRS.out.free 5 (List.mem_cons_self ..)
 have r5 := HRS.out.cell (j := 5) (List.mem_cons_self ..) rfl
 have f6 := HRS.out.free 6 (List.mem_cons_self ..)
 have r6 := HRS.out.cell (j := 6) (List.mem_cons_self ..) rfl
 have f7 := HRS.out.free 7 (List.mem_cons_self ..)
 have r7 := HRS.out.cell (j := 7) (List.mem_cons_self ..) rfl
 have f8 := HRS.out.free 8 (List.mem_cons_self ..)
 have r8 := HRS.out.cell (j := 8) (List.mem_cons_self ..) rfl
 have f9 := HRS.out.free 9 (List.mem_cons_self ..)
 have r9 := HRS.out.cell (j := 9) (List.mem_cons_self ..) rfl
 have f10 := HRS.out.free 10 (List.mem_cons_self ..)
 have r10 := HRS.out.cell (j := 10) (List.mem_cons_self ..) rfl
 go_wp2_with fail
 have HBE := Aside0.mk (below_step HBW.out HRS.out.below)
 have HG0 := Aside0.mk (Nat.le_refl w.heap.size)
 refine bodyPost_ret (results_ct rfl _ _ _ 45 #[.int .i64 0, .int .i64 0, .int .i64 0, .int .i64 0, .bool false, .int .u64 0, .int .u64 0, .bool false, .int .u64 0, .int .u64 0, .string ⟨#[]⟩] (0, 0) _ rfl (by (with_reducible repeat (first | refine blk_drewN ?_ _ | refine blk_drew ?_ | refine blk_alloc ?_ _)); refine blk_put (cs := #[.int .i64 0, .int .i64 0, .int .i64 0, .int .i64 0, .bool false, .int .u64 0, .int .u64 0, .bool false, .int .u64 0, .int .u64 0, .string ⟨#[]⟩]) ?_ 10 _ rfl; (with_reducible repeat (first | refine blk_drewN ?_ _ | refine blk_drew ?_ | refine blk_alloc ?_ _)); refine blk_put (cs := #[.int .i64 0, .int .i64 0, .int .i64 0, .int .i64 0, .bool false, .int .u64 0, .int .u64 0, .bool false, .int .u64 0, .int .u64 0, .string ⟨#[]⟩]) ?_ 9 _ rfl; (with_reducible repeat (first | refine blk_drewN ?_ _ | refine blk_drew ?_ | refine blk_alloc ?_ _)); refine blk_put (cs := #[.int .i64 0, .int .i64 0, .int .i64 0, .int .i64 0, .bool false, .int .u64 0, .int .u64 0, .bool false, .int .u64 0, .int .u64 0, .string ⟨#[]⟩]) ?_ 8 _ rfl; (with_reducible repeat (first | refine blk_drewN ?_ _ | refine blk_drew ?_ | refine blk_alloc ?_ _)); refine blk_put (cs := #[.int .i64 0, .int .i64 0, .int .i64 0, .int .i64 0, .bool false, .int .u64 0, .int .u64 0, .bool false, .int .u64 0, .int .u64 0, .string ⟨#[]⟩]) ?_ 7 _ rfl; (with_reducible repeat (first | refine blk_drewN ?_ _ | refine blk_drew ?_ | refine blk_alloc ?_ _)); refine blk_put (cs := #[.int .i64 0, .int .i64 0, .int .i64 0, .int .i64 0, .bool false, .int .u64 0, .int .u64 0, .bool false, .int .u64 0, .int .u64 0, .string ⟨#[]⟩]) ?_ 6 _ rfl; (with_reducible repeat (first | refine blk_drewN ?_ _ | refine blk_drew ?_ | refine blk_alloc ?_ _)); refine blk_put (cs := #[.int .i64 0, .int .i64 0, .int .i64 0, .int .i64 0, .bool false, .int .u64 0, .int .u64 0, .bool false, .int .u64 0, .int .u64 0, .string ⟨#[]⟩]) ?_ 5 _ rfl; (with_reducible repeat (first | refine blk_drewN ?_ _ | refine blk_drew ?_ | refine blk_alloc ?_ _)); refine blk_put (cs := #[.int .i64 0, .int .i64 0, .int .i64 0, .int .i64 0, .bool false, .int .u64 0, .int .u64 0, .bool false, .int .u64 0, .int .u64 0, .string ⟨#[]⟩]) ?_ 4 _ rfl; (with_reducible repeat (first | refine blk_drewN ?_ _ | refine blk_drew ?_ | refine blk_alloc ?_ _)); refine blk_put (cs := #[.int .i64 0, .int .i64 0, .int .i64 0, .int .i64 0, .bool false, .int .u64 0, .int .u64 0, .bool false, .int .u64 0, .int .u64 0, .string ⟨#[]⟩]) ?_ 3 _ rfl; (with_reducible repeat (first | refine blk_drewN ?_ _ | refine blk_drew ?_ | refine blk_alloc ?_ _)); refine blk_put (cs := #[.int .i64 0, .int .i64 0, .int .i64 0, .int .i64 0, .bool false, .int .u64 0, .int .u64 0, .bool false, .int .u64 0, .int .u64 0, .string ⟨#[]⟩]) ?_ 2 _ rfl; (with_reducible repeat (first | refine blk_drewN ?_ _ | refine blk_drew ?_ | refine blk_alloc ?_ _)); refine blk_put (cs := #[.int .i64 0, .int .i64 0, .int .i64 0, .int .i64 0, .bool false, .int .u64 0, .int .u64 0, .bool false, .int .u64 0, .int .u64 0, .string ⟨#[]⟩]) ?_ 1 _ rfl; (with_reducible repeat (first | refine blk_drewN ?_ _ | refine blk_drew ?_ | refine blk_alloc ?_ _)); refine blk_put (cs := #[.int .i64 0, .int .i64 0, .int .i64 0, .int .i64 0, .bool false, .int .u64 0, .int .u64 0, .bool false, .int .u64 0, .int .u64 0, .string ⟨#[]⟩]) ?_ 0 _ rfl; (with_reducible repeat (first | refine blk_drewN ?_ _ | refine blk_drew ?_ | refine blk_alloc ?_ _)); exact HRES.out) Tryd.underlying45 rfl (by kernel_rfl)) rfl ?_
 exact ⟨rfl, by repeat (first | (with_reducible first | exact HBE.out | apply below_alloc | apply pw_below_drewN | apply below_drew1 | refine below_set ?_ HG0.out) | exact HBE.out)⟩
set_option maxHeartbeats 2000000 in
set_option maxRecDepth 100000 in
theorem ip6_Take.short (s : ByteArray) (w : World) (h40 : (s.size : Int) < 40) :
  Calls Tryd.prog 18 #[.string s] w fun e w' => e = .returned (.tuple #[.agg #[.int .i64 0, .int .i64 0, .int .i64 0, .int .i64 0, .bool false, .int .u64 0, .int .u64 0, .bool false, .int .u64 0, .int .u64 0, .string ⟨#[]⟩], .int .i64 61]) ∧ Below w.heap.size w w' := by
 have hu26 := Tryd.underlying45
 have hu24 := Tryd.underlying28
 go_enter Tryd.func18, Tryd.ntmps18
 go_wp2_with fail
 refine bodyPost_ret (results_ct rfl _ _ _ 45 #[.int .i64 0, .int .i64 0, .int .i64 0, .int .i64 0, .bool false, .int .u64 0, .int .u64 0, .bool false, .int .u64 0, .int .u64 0, .string ⟨#[]⟩] (0, 0) _ rfl (heap_alloc_new w _) Tryd.underlying45 rfl (by kernel_rfl)) rfl ?_
 exact ⟨rfl, below_alloc (Below.refl _ _) _⟩
set_option maxHeartbeats 2000000 in
set_option maxRecDepth 100000 in
theorem ip6_Take.form (s : ByteArray) (w : World) (h40 : ¬ (s.size : Int) < 40) (h6 : ¬ bt s 0 / 16 = 6) :
  Calls Tryd.prog 18 #[.string s] w fun e w' => e = .returned (.tuple #[.agg #[.int .i64 0, .int .i64 0, .int .i64 0, .int .i64 0, .bool false, .int .u64 0, .int .u64 0, .bool false, .int .u64 0, .int .u64 0, .string ⟨#[]⟩], .int .i64 60]) ∧ Below w.heap.size w w' := by
 have hu26 := Tryd.underlying45
 have hu24 := Tryd.underlying28
 have hx0 : ∀ h : 0 < s.size, ((s[0]'h).toNat : Int) = bt s 0 := bt_at s 0
 have r0 := (bt_range s 0).1; have r1 := (bt_range s 0).2
 have hq0 : 0 < s.size := by omega
 have hi0 : ((0 : Int) < (s.size : Int)) = True := eq_true (by omega)
 have hb6 : (bt s 0 / 16 != 6) = true := by simpa using h6
 go_enter Tryd.func18, Tryd.ntmps18
 go_wp2_with fail
 refine bodyPost_ret (results_ct rfl _ _ _ 45 #[.int .i64 0, .int .i64 0, .int .i64 0, .int .i64 0, .bool false, .int .u64 0, .int .u64 0, .bool false, .int .u64 0, .int .u64 0, .string ⟨#[]⟩] (0, 0) _ rfl (heap_alloc_new w _) Tryd.underlying45 rfl (by kernel_rfl)) rfl ?_
 exact ⟨rfl, below_alloc (Below.refl _ _) _⟩
theorem ip6_Take.mono : ∀ a0 k, LeO (ip6_Take.f k a0) (ip6_Take.f (k + 1) a0) := by
 intro a0 k
 unfold ip6_Take.f
 repeat' first | (with_reducible exact ip6_Take.num_mono _ _ _) | (with_reducible exact LeO.refl _) | (with_reducible exact LeO.none _) | (with_reducible refine LeO.ite ?_ ?_) | (with_reducible refine LeO.bind ?_ (fun _ => ?_))
theorem ip6_Take.calls (k : Nat) (a0 : ByteArray) (r1 r2 r3 r4 : Int) (r5 : Bool) (r6 r7 : Int) (r8 : Bool) (r9 r10 : Int) (r11 : ByteArray) (r12 : Int) (w : World) (h : ip6_Take.f k a0 = some (r1, r2, r3, r4, r5, r6, r7, r8, r9, r10, r11, r12)) :
  Calls Tryd.prog 18 #[.string a0] w fun e w' => e = .returned (.tuple #[.agg #[.int .i64 r1, .int .i64 r2, .int .i64 r3, .int .i64 r4, .bool r5, .int .u64 r6, .int .u64 r7, .bool r8, .int .u64 r9, .int .u64 r10, .string r11], .int .i64 r12]) ∧ Below w.heap.size w w' := by
 unfold ip6_Take.f at h
 by_cases h40 : (a0.size : Int) < 40
 · rw [if_pos h40] at h
   injection h with h; simp only [ip6_Take.no, Prod.mk.injEq] at h
   obtain ⟨rfl, rfl, rfl, rfl, rfl, rfl, rfl, rfl, rfl, rfl, rfl, rfl⟩ := h
   exact ip6_Take.short a0 w h40
 rw [if_neg h40] at h
 by_cases hbig : 281474976710656 < a0.size
 · rw [if_pos hbig] at h; cases h
 rw [if_neg hbig] at h
 by_cases h6 : ¬ bt a0 0 / 16 = 6
 · rw [if_pos h6] at h
   injection h with h; simp only [ip6_Take.no, Prod.mk.injEq] at h
   obtain ⟨rfl, rfl, rfl, rfl, rfl, rfl, rfl, rfl, rfl, rfl, rfl, rfl⟩ := h
   exact ip6_Take.form a0 w h40 h6
 rw [if_neg h6] at h
 obtain ⟨a, ha, h⟩ := Option.bind_eq_some_iff.1 h
 obtain ⟨b, hb, h⟩ := Option.bind_eq_some_iff.1 h
 by_cases hr : ¬ (0 ≤ a ∧ a ≤ 4294967295 ∧ 0 ≤ b ∧ b ≤ 65535)
 · rw [if_pos hr] at h; cases h
 rw [if_neg hr] at h
 by_cases hn : (a0.size : Int) - 40 < b
 · rw [if_pos hn] at h
   injection h with h; simp only [ip6_Take.no, Prod.mk.injEq] at h
   obtain ⟨rfl, rfl, rfl, rfl, rfl, rfl, rfl, rfl, rfl, rfl, rfl, rfl⟩ := h
   exact ip6_Take.behind k a0 a b w (by omega) (by omega) (by omega) ha hb (by omega) (by omega) hn
 rw [if_neg hn] at h
 obtain ⟨c, hc, h⟩ := Option.bind_eq_some_iff.1 h
 obtain ⟨d, hd, h⟩ := Option.bind_eq_some_iff.1 h
 by_cases hr2 : ¬ (0 ≤ c ∧ c ≤ 255 ∧ 0 ≤ d ∧ d ≤ 255)
 · rw [if_pos hr2] at h; cases h
 rw [if_neg hr2] at h
 obtain ⟨x1, h1, h⟩ := Option.bind_eq_some_iff.1 h
 obtain ⟨x2, h2, h⟩ := Option.bind_eq_some_iff.1 h
 obtain ⟨x3, h3, h⟩ := Option.bind_eq_some_iff.1 h
 obtain ⟨x4, h4, h⟩ := Option.bind_eq_some_iff.1 h
 injection h with h; simp only [Prod.mk.injEq] at h
 obtain ⟨rfl, rfl, rfl, rfl, rfl, rfl, rfl, rfl, rfl, rfl, rfl, rfl⟩ := h
 exact ip6_Take.good k a0 a b c d x1 x2 x3 x4 w (by omega) (by omega) (by omega) ha hb (by omega) (by omega) (by omega) hc hd (by omega) (by omega) h1 h2 h3 h4

/-! ### ip6_Chain: function 67 (by hand) -/
/-- A way out of a scope: by a goto to label l: J l; by any other: as Q. -/
def Jumps (J : Nat → Act → World → Prop) (Q : Exit → Act → World → Prop) : Exit → Act → World → Prop
 | .goto l, a, w => J l a w
 | e, a, w => Q e a w
theorem Jumps_ret (J : Nat → Act → World → Prop) (Q : Exit → Act → World → Prop) (a : Act) (w : World) : Jumps J Q .ret a w = Q .ret a w := rfl
theorem Jumps_goto (J : Nat → Act → World → Prop) (Q : Exit → Act → World → Prop) (l : Nat) (a : Act) (w : World) : Jumps J Q (.goto l) a w = J l a w := rfl
/-- A scope of several labels: what holds at each jump, by a measure that every jump lowers; the way to the first label is told apart. -/
theorem wp_scope_labels {P : Program} {c rest0 : Code} {Q : Exit → Act → World → Prop} {a a0 : Act} {w w0 : World} (J : Nat → Nat → Act → World → Prop) (g0 l0 : Nat) (h0 : findLabel c l0 = some (Code.skip.seq rest0))
  (first : ∀ X : Exit → Act → World → Prop, rest0.wp P X a0 w0 → c.wp P X a w) (hJ : J g0 l0 a0 w0)
  (pass : ∀ g l a w, J g l a w → ∃ rest, findLabel c l = some (Code.skip.seq rest) ∧ rest.wp P (Jumps (fun l2 a2 w2 => ∃ g2, g2 < g ∧ J g2 l2 a2 w2) Q) a w) : (Code.scope c).wp P Q a w := by
 intro b k cs
 have out : ∀ g, (∀ g2, g2 < g → ∀ l a w, J g2 l a w → ∃ rest, findLabel c l = some rest ∧ ∃ e a1 w1, Q e a1 w1 ∧ Arrives P (lone (b.at a (.code rest :: .inScope c :: k)) cs w) b k cs e a1 w1) →
   ∀ m, (∃ e a1 w1, Jumps (fun l2 a2 w2 => ∃ g2, g2 < g ∧ J g2 l2 a2 w2) Q e a1 w1 ∧ Arrives P m b (.inScope c :: k) cs e a1 w1) → ∃ e a1 w1, Q e a1 w1 ∧ Arrives P m b k cs e a1 w1 := by
  rintro g hg m ⟨e, a1, w1, hq, har⟩
  cases e with
  | goto l2 =>
   obtain ⟨g2, hlt, hj2⟩ := hq
   obtain ⟨rest2, hr2, e2, a2, w2, hq2, har2⟩ := hg g2 hlt l2 a1 w1 hj2
   exact ⟨e2, a2, w2, hq2, .of_steps (har _ (by simp [gotoIn, hr2])) har2⟩
  | normal => exact ⟨.normal, a1, w1, hq, Steps.trans har (.one step_inScope)⟩
  | exit id => exact ⟨.exit id, a1, w1, hq, fun k2 hk => har k2 (by simp [exitTo, hk])⟩
  | ret => exact ⟨_, a1, w1, hq, har⟩
  | panic ch => exact ⟨_, a1, w1, hq, har⟩
  | outgrown => exact ⟨_, a1, w1, hq, har⟩
 have run : ∀ g l a w, J g l a w → ∃ rest, findLabel c l = some rest ∧ ∃ e a1 w1, Q e a1 w1 ∧ Arrives P (lone (b.at a (.code rest :: .inScope c :: k)) cs w) b k cs e a1 w1 := by
  intro g
  induction g using Nat.strongRecOn with
  | _ g ih =>
   intro l a w hj
   obtain ⟨rest, hr, hw⟩ := pass g l a w hj
   exact ⟨_, hr, out g (fun g2 hlt l a w => ih g2 hlt l a w) _ (wp_seq (wp_skip hw) b (.inScope c :: k) cs)⟩
 obtain ⟨rest, hr, hw⟩ := pass g0 l0 a0 w0 hJ
 obtain rfl : rest0 = rest := by have e := Option.some.inj (h0.symm.trans hr); injection e
 obtain ⟨e, a1, w1, hq, har⟩ := out g0 (fun g2 _ l a w => run g2 l a w) _ (first _ hw b (.inScope c :: k) cs)
 exact ⟨e, a1, w1, hq, .of_steps (.one step_scope) har⟩

/-- How many bytes a further header has. -/
def ip6_Chain.n (data : ByteArray) (next at_ : Int) : Int := if next ≠ 44 ∧ 2 ≤ (data.size : Int) - at_ then 8 * (1 + bt data (at_ + 1)) else 8
theorem ip6_Chain.n_pos (data : ByteArray) (next at_ : Int) : 8 ≤ ip6_Chain.n data next at_ ∧ ip6_Chain.n data next at_ ≤ 2048 := by
 have := bt_range data (at_ + 1)
 unfold ip6_Chain.n; split <;> omega
def ip6_Chain.l (data : ByteArray) : Nat → Int → List S68 → Int → Option (List S68 × Int × Int × Int)
 | 0, _, _, _ => none
 | k + 1, next, out, at_ => if next = 0 ∨ next = 43 ∨ next = 60 ∨ next = 44 then
   (if next = 0 ∧ 0 < at_ then some ([], 0, 0, 64) else if (out.length : Int) = 16 then some ([], 0, 0, 64) else
    if (data.size : Int) - at_ < ip6_Chain.n data next at_ then some ([], 0, 0, 61) else ip6_Chain.l data k (bt data at_) (out ++ [(⟨next, at_, ip6_Chain.n data next at_⟩ : S68)]) (at_ + ip6_Chain.n data next at_))
   else some (out, next, at_, 0)
def ip6_Chain.f (a0 : Int) (a1 : ByteArray) : Option (List S68 × Int × Int × Int) := if a1.size ≤ 281474976710656 then ip6_Chain.l a1 18 a0 [] 0 else none
/-- What holds at the labels. -/
def ip6_Chain.J (data : ByteArray) (r : List S68 × Int × Int × Int) (w0 : World) (g l : Nat) (a : Act) (w : World) : Prop :=
 ∃ (next at_ : Int) (out : List S68) (v8 u10 u11 u12 u13 u14 u15 u16 u17 u18 u19 u20 u21 u22 u23 u24 u25 u26 u27 u28 u29 u30 u31 u32 u33 u34 u35 u36 u37 u38 u39 u40 u41 u42 u43 u44 u45 u46 u47 u48 u49 u50 u51 u52 u53 u54 u55 u56 u57 u58 : Value), a = { tmps := #[.int .i64 next, .string data, undef, undef, .slice none 0 0, .int .i64 0, .int .i64 0, .int .i64 0, v8, .int .i64 at_, u10, u11, u12, u13, u14, u15, u16, u17, u18, u19, u20, u21, u22, u23, u24, u25, u26, u27, u28, u29, u30, u31, u32, u33, u34, u35, u36, u37, u38, u39, u40, u41, u42, u43, u44, u45, u46, u47, u48, u49, u50, u51, u52, u53, u54, u55, u56, u57, u58], defers := [] } ∧
  ((l = 0 ∧ ip6_Chain.l data g next out at_ = some r) ∨ (l = 1 ∧ r = (out, next, at_, 0))) ∧ (out.length ≤ 16 ∧ 0 ≤ at_ ∧ at_ ≤ (data.size : Int)) ∧ Kd.R k68 68 w w0.heap.size (fun _ => True) v8 out ∧ Below w0.heap.size w0 w
set_option maxHeartbeats 4000000 in
set_option maxRecDepth 100000 in
theorem ip6_Chain.calls (a0 : Int) (a1 : ByteArray) (r1 : List S68) (r2 r3 r4 : Int) (w : World) (h : ip6_Chain.f a0 a1 = some (r1, r2, r3, r4)) :
  Calls Tryd.prog 67 #[.int .i64 a0, .string a1] w fun e w' => ∃ v0_ : Value, e = .returned (.tuple #[v0_, .int .i64 r2, .int .i64 r3, .int .i64 r4]) ∧ Kd.R k68 68 w' w.heap.size (fun _ => True) v0_ r1 ∧ Below w.heap.size w w' := by
 unfold ip6_Chain.f at h
 by_cases hs : a1.size ≤ 281474976710656
 case neg => rw [if_neg hs] at h; cases h
 rw [if_pos hs] at h
 have HS := Aside0.mk hs
 have H := Aside0.mk h
 clear h hs
 go_enter Tryd.func67, Tryd.ntmps67
 go_wp2
 apply wp_scope_labels (ip6_Chain.J a1 (r1, r2, r3, r4) w) 18 0 rfl
 · intro X hX
   go_wp2
   go_step3
   rename_i hK
   exact hK _ _ hX
 · exact ⟨_, _, [], _, _, _, _, _, _, _, _, _, _, _, _, _, _, _, _, _, _, _, _, _, _, _, _, _, _, _, _, _, _, _, _, _, _, _, _, _, _, _, _, _, _, _, _, _, _, _, _, _, _, rfl, .inl ⟨rfl, H.out⟩, ⟨by simp, by omega, by omega⟩, Kd.R_nil _ _ _ _ _, Below.refl _ _⟩
 · rintro g l a w1 ⟨next, at_, out, v8, u10, u11, u12, u13, u14, u15, u16, u17, u18, u19, u20, u21, u22, u23, u24, u25, u26, u27, u28, u29, u30, u31, u32, u33, u34, u35, u36, u37, u38, u39, u40, u41, u42, u43, u44, u45, u46, u47, u48, u49, u50, u51, u52, u53, u54, u55, u56, u57, u58, rfl, hl, ⟨hlen, h0, h1⟩, ho, hb⟩
   have HO := Aside0.mk ho
   have HB := Aside0.mk hb
   clear ho hb H
   rcases hl with ⟨rfl, hl⟩ | ⟨rfl, hl⟩
   · refine ⟨_, rfl, ?_⟩
     cases g with
     | zero => simp [ip6_Chain.l] at hl
     | succ g =>
      rw [ip6_Chain.l] at hl
      obtain ⟨A8, c8, rfl⟩ := Kd.R_slice HO.out
      by_cases hn : next = 0 ∨ next = 43 ∨ next = 60 ∨ next = 44
      case neg =>
       rw [if_neg hn] at hl
       have HL := Aside0.mk hl
       have t0 : (next == 0) = false := by simp; omega
       have t1 : (next == 43) = false := by simp; omega
       have t2 : (next == 60) = false := by simp; omega
       have t3 : (next == 44) = false := by simp; omega
       clear hl hn
       go_wp2
       go_step3
       exact ⟨0, Nat.succ_pos _, next, at_, out, _, _, _, _, _, _, _, _, _, _, _, _, _, _, _, _, _, _, _, _, _, _, _, _, _, _, _, _, _, _, _, _, _, _, _, _, _, _, _, _, _, _, _, _, _, _, _, _, _, _, rfl, .inr ⟨rfl, (Option.some.inj HL.out).symm⟩, ⟨hlen, h0, h1⟩, HO.out, HB.out⟩
      rcases hn with rfl | rfl | rfl | rfl
      · rw [if_pos (by simp)] at hl
        by_cases hat : 0 < at_
        · rw [if_pos ⟨rfl, hat⟩] at hl
          injection hl with hl
          injection hl with e1 e2
          injection e2 with e2 e3
          injection e3 with e3 e4
          subst e1 e2 e3 e4
          have hs := HS.out
          clear HS
          go_wp2
          rw [Jumps_ret]
          refine bodyPost_ret (results_list (rs := [.tmp 4, .tmp 5, .tmp 6, .tmp 7]) rfl (by simp) (.tmp (.tmp (.tmp (.tmp .nil))))) rfl ?_
          exact ⟨_, rfl, Kd.R_nil _ _ _ _ _, HB.out⟩
        rw [if_neg (by omega)] at hl
        by_cases c16 : (out.length : Int) = 16
        · rw [if_pos c16] at hl
          injection hl with hl
          injection hl with e1 e2
          injection e2 with e2 e3
          injection e3 with e3 e4
          subst e1 e2 e3 e4
          have hs := HS.out
          clear HS
          by_cases c2 : 2 ≤ (a1.size : Int) - at_
          · have hb1 := (bt_range a1 (at_ + 1)).1
            have hb2 := (bt_range a1 (at_ + 1)).2
            have hx1 := bt_at a1 (at_ + 1)
            have p1 : (0 ≤ at_ + 1) = True := eq_true (by omega)
            have q1 : (at_ + 1 < (a1.size : Int)) = True := eq_true (by omega)
            go_wp2
            rw [Jumps_ret]
            refine bodyPost_ret (results_list (rs := [.tmp 4, .tmp 5, .tmp 6, .tmp 7]) rfl (by simp) (.tmp (.tmp (.tmp (.tmp .nil))))) rfl ?_
            exact ⟨_, rfl, Kd.R_nil _ _ _ _ _, HB.out⟩
          · go_wp2
            rw [Jumps_ret]
            refine bodyPost_ret (results_list (rs := [.tmp 4, .tmp 5, .tmp 6, .tmp 7]) rfl (by simp) (.tmp (.tmp (.tmp (.tmp .nil))))) rfl ?_
            exact ⟨_, rfl, Kd.R_nil _ _ _ _ _, HB.out⟩
        rw [if_neg c16] at hl
        by_cases c2 : 2 ≤ (a1.size : Int) - at_
        · have en : ip6_Chain.n a1 0 at_ = 8 * (1 + bt a1 (at_ + 1)) := by unfold ip6_Chain.n; rw [if_pos (by omega)]
          rw [en] at hl
          have hb1 := (bt_range a1 (at_ + 1)).1
          have hb2 := (bt_range a1 (at_ + 1)).2
          have hx1 := bt_at a1 (at_ + 1)
          have p1 : (0 ≤ at_ + 1) = True := eq_true (by omega)
          have q1 : (at_ + 1 < (a1.size : Int)) = True := eq_true (by omega)
          by_cases cs : (a1.size : Int) - at_ < 8 * (1 + bt a1 (at_ + 1))
          · rw [if_pos cs] at hl
            injection hl with hl
            injection hl with e1 e2
            injection e2 with e2 e3
            injection e3 with e3 e4
            subst e1 e2 e3 e4
            have hs := HS.out
            clear HS
            go_wp2
            rw [Jumps_ret]
            refine bodyPost_ret (results_list (rs := [.tmp 4, .tmp 5, .tmp 6, .tmp 7]) rfl (by simp) (.tmp (.tmp (.tmp (.tmp .nil))))) rfl ?_
            exact ⟨_, rfl, Kd.R_nil _ _ _ _ _, HB.out⟩
          · rw [if_neg cs] at hl
            have HL := Aside0.mk hl
            have hx0 := bt_at a1 at_
            have hb3 := (bt_range a1 at_).1
            have hb4 := (bt_range a1 at_).2
            have p0 : (0 ≤ at_) = True := eq_true (by omega)
            have q0 : (at_ < (a1.size : Int)) = True := eq_true (by omega)
            have hs := HS.out
            clear hl HS
            go_wp2_with (first | ((with_reducible refine gate_builtin (b := .append) (xs := #[.tmp 42, .tmp 47]) rfl ?_); at_builtin; refine Kd.R_append k68 (w0 := w) w.heap.size rfl (.tmp 42) (.tmp 47) 64 68 (.agg #[(.int .i64 0), (.int .i64 0), (.int .i64 0)]) 24 rfl Tryd.underlying64 info68 rfl (by decide) (by omega) (.slice A8 out.length c8) out (⟨0, at_, 8 * (1 + bt a1 (at_ + 1))⟩ : S68) [.int .i64 0, .int .i64 at_, .int .i64 (8 * (1 + bt a1 (at_ + 1)))] (fun _ => True) (fun _ => False) rfl rfl ?aP (fun _ hk => hk.elim) ?aF ?aO ?aB ?aS ?aL ?_; (case aP => exact k68_mkM _ _ _ _); (case aB => exact (sh_B HB)); (case aF => exact (fun _ _ => trivial)); (case aO => exact (by (with_reducible repeat (first | apply Kd.R_alloc | apply Kd.R_drewN | apply Kd.R_drew)); exact HO.out)); (case aS => exact (below_size (sh_B HB))); (case aL => omega); intro v2 w2 ho hb hg hat; have HO2 := Aside0.mk ho; have HB2 := Aside0.mk hb; clear HO HB ho hb hg hat))
            go_step3
            exact ⟨g, Nat.lt_succ_self _, bt a1 at_, at_ + (8 * (1 + bt a1 (at_ + 1))), out ++ [(⟨0, at_, 8 * (1 + bt a1 (at_ + 1))⟩ : S68)], v2, _, _, _, _, _, _, _, _, _, _, _, _, _, _, _, _, _, _, _, _, _, _, _, _, _, _, _, _, _, _, _, _, _, _, _, _, _, _, _, _, _, _, _, _, _, _, _, _, _, rfl, .inl ⟨rfl, HL.out⟩, ⟨by simp; omega, by omega, by omega⟩, HO2.out, HB2.out⟩
        · have en : ip6_Chain.n a1 0 at_ = 8 := by unfold ip6_Chain.n; rw [if_neg (by omega)]
          rw [en] at hl
          rw [if_pos (by omega)] at hl
          injection hl with hl
          injection hl with e1 e2
          injection e2 with e2 e3
          injection e3 with e3 e4
          subst e1 e2 e3 e4
          have hs := HS.out
          clear HS
          go_wp2
          rw [Jumps_ret]
          refine bodyPost_ret (results_list (rs := [.tmp 4, .tmp 5, .tmp 6, .tmp 7]) rfl (by simp) (.tmp (.tmp (.tmp (.tmp .nil))))) rfl ?_
          exact ⟨_, rfl, Kd.R_nil _ _ _ _ _, HB.out⟩
      · rw [if_pos (by simp), if_neg (by omega)] at hl
        by_cases c16 : (out.length : Int) = 16
        · rw [if_pos c16] at hl
          injection hl with hl
          injection hl with e1 e2
          injection e2 with e2 e3
          injection e3 with e3 e4
          subst e1 e2 e3 e4
          have hs := HS.out
          clear HS
          by_cases c2 : 2 ≤ (a1.size : Int) - at_
          · have hb1 := (bt_range a1 (at_ + 1)).1
            have hb2 := (bt_range a1 (at_ + 1)).2
            have hx1 := bt_at a1 (at_ + 1)
            have p1 : (0 ≤ at_ + 1) = True := eq_true (by omega)
            have q1 : (at_ + 1 < (a1.size : Int)) = True := eq_true (by omega)
            go_wp2
            rw [Jumps_ret]
            refine bodyPost_ret (results_list (rs := [.tmp 4, .tmp 5, .tmp 6, .tmp 7]) rfl (by simp) (.tmp (.tmp (.tmp (.tmp .nil))))) rfl ?_
            exact ⟨_, rfl, Kd.R_nil _ _ _ _ _, HB.out⟩
          · go_wp2
            rw [Jumps_ret]
            refine bodyPost_ret (results_list (rs := [.tmp 4, .tmp 5, .tmp 6, .tmp 7]) rfl (by simp) (.tmp (.tmp (.tmp (.tmp .nil))))) rfl ?_
            exact ⟨_, rfl, Kd.R_nil _ _ _ _ _, HB.out⟩
        rw [if_neg c16] at hl
        by_cases c2 : 2 ≤ (a1.size : Int) - at_
        · have en : ip6_Chain.n a1 43 at_ = 8 * (1 + bt a1 (at_ + 1)) := by unfold ip6_Chain.n; rw [if_pos (by omega)]
          rw [en] at hl
          have hb1 := (bt_range a1 (at_ + 1)).1
          have hb2 := (bt_range a1 (at_ + 1)).2
          have hx1 := bt_at a1 (at_ + 1)
          have p1 : (0 ≤ at_ + 1) = True := eq_true (by omega)
          have q1 : (at_ + 1 < (a1.size : Int)) = True := eq_true (by omega)
          by_cases cs : (a1.size : Int) - at_ < 8 * (1 + bt a1 (at_ + 1))
          · rw [if_pos cs] at hl
            injection hl with hl
            injection hl with e1 e2
            injection e2 with e2 e3
            injection e3 with e3 e4
            subst e1 e2 e3 e4
            have hs := HS.out
            clear HS
            go_wp2
            rw [Jumps_ret]
            refine bodyPost_ret (results_list (rs := [.tmp 4, .tmp 5, .tmp 6, .tmp 7]) rfl (by simp) (.tmp (.tmp (.tmp (.tmp .nil))))) rfl ?_
            exact ⟨_, rfl, Kd.R_nil _ _ _ _ _, HB.out⟩
          · rw [if_neg cs] at hl
            have HL := Aside0.mk hl
            have hx0 := bt_at a1 at_
            have hb3 := (bt_range a1 at_).1
            have hb4 := (bt_range a1 at_).2
            have p0 : (0 ≤ at_) = True := eq_true (by omega)
            have q0 : (at_ < (a1.size : Int)) = True := eq_true (by omega)
            have hs := HS.out
            clear hl HS
            go_wp2_with (first | ((with_reducible refine gate_builtin (b := .append) (xs := #[.tmp 42, .tmp 47]) rfl ?_); at_builtin; refine Kd.R_append k68 (w0 := w) w.heap.size rfl (.tmp 42) (.tmp 47) 64 68 (.agg #[(.int .i64 0), (.int .i64 0), (.int .i64 0)]) 24 rfl Tryd.underlying64 info68 rfl (by decide) (by omega) (.slice A8 out.length c8) out (⟨43, at_, 8 * (1 + bt a1 (at_ + 1))⟩ : S68) [.int .i64 43, .int .i64 at_, .int .i64 (8 * (1 + bt a1 (at_ + 1)))] (fun _ => True) (fun _ => False) rfl rfl ?aP (fun _ hk => hk.elim) ?aF ?aO ?aB ?aS ?aL ?_; (case aP => exact k68_mkM _ _ _ _); (case aB => exact (sh_B HB)); (case aF => exact (fun _ _ => trivial)); (case aO => exact (by (with_reducible repeat (first | apply Kd.R_alloc | apply Kd.R_drewN | apply Kd.R_drew)); exact HO.out)); (case aS => exact (below_size (sh_B HB))); (case aL => omega); intro v2 w2 ho hb hg hat; have HO2 := Aside0.mk ho; have HB2 := Aside0.mk hb; clear HO HB ho hb hg hat))
            go_step3
            exact ⟨g, Nat.lt_succ_self _, bt a1 at_, at_ + (8 * (1 + bt a1 (at_ + 1))), out ++ [(⟨43, at_, 8 * (1 + bt a1 (at_ + 1))⟩ : S68)], v2, _, _, _, _, _, _, _, _, _, _, _, _, _, _, _, _, _, _, _, _, _, _, _, _, _, _, _, _, _, _, _, _, _, _, _, _, _, _, _, _, _, _, _, _, _, _, _, _, _, rfl, .inl ⟨rfl, HL.out⟩, ⟨by simp; omega, by omega, by omega⟩, HO2.out, HB2.out⟩
        · have en : ip6_Chain.n a1 43 at_ = 8 := by unfold ip6_Chain.n; rw [if_neg (by omega)]
          rw [en] at hl
          rw [if_pos (by omega)] at hl
          injection hl with hl
          injection hl with e1 e2
          injection e2 with e2 e3
          injection e3 with e3 e4
          subst e1 e2 e3 e4
          have hs := HS.out
          clear HS
          go_wp2
          rw [Jumps_ret]
          refine bodyPost_ret (results_list (rs := [.tmp 4, .tmp 5, .tmp 6, .tmp 7]) rfl (by simp) (.tmp (.tmp (.tmp (.tmp .nil))))) rfl ?_
          exact ⟨_, rfl, Kd.R_nil _ _ _ _ _, HB.out⟩
      · rw [if_pos (by simp), if_neg (by omega)] at hl
        by_cases c16 : (out.length : Int) = 16
        · rw [if_pos c16] at hl
          injection hl with hl
          injection hl with e1 e2
          injection e2 with e2 e3
          injection e3 with e3 e4
          subst e1 e2 e3 e4
          have hs := HS.out
          clear HS
          by_cases c2 : 2 ≤ (a1.size : Int) - at_
          · have hb1 := (bt_range a1 (at_ + 1)).1
            have hb2 := (bt_range a1 (at_ + 1)).2
            have hx1 := bt_at a1 (at_ + 1)
            have p1 : (0 ≤ at_ + 1) = True := eq_true (by omega)
            have q1 : (at_ + 1 < (a1.size : Int)) = True := eq_true (by omega)
            go_wp2
            rw [Jumps_ret]
            refine bodyPost_ret (results_list (rs := [.tmp 4, .tmp 5, .tmp 6, .tmp 7]) rfl (by simp) (.tmp (.tmp (.tmp (.tmp .nil))))) rfl ?_
            exact ⟨_, rfl, Kd.R_nil _ _ _ _ _, HB.out⟩
          · go_wp2
            rw [Jumps_ret]
            refine bodyPost_ret (results_list (rs := [.tmp 4, .tmp 5, .tmp 6, .tmp 7]) rfl (by simp) (.tmp (.tmp (.tmp (.tmp .nil))))) rfl ?_
            exact ⟨_, rfl, Kd.R_nil _ _ _ _ _, HB.out⟩
        rw [if_neg c16] at hl
        by_cases c2 : 2 ≤ (a1.size : Int) - at_
        · have en : ip6_Chain.n a1 60 at_ = 8 * (1 + bt a1 (at_ + 1)) := by unfold ip6_Chain.n; rw [if_pos (by omega)]
          rw [en] at hl
          have hb1 := (bt_range a1 (at_ + 1)).1
          have hb2 := (bt_range a1 (at_ + 1)).2
          have hx1 := bt_at a1 (at_ + 1)
          have p1 : (0 ≤ at_ + 1) = True := eq_true (by omega)
          have q1 : (at_ + 1 < (a1.size : Int)) = True := eq_true (by omega)
          by_cases cs : (a1.size : Int) - at_ < 8 * (1 + bt a1 (at_ + 1))
          · rw [if_pos cs] at hl
            injection hl with hl
            injection hl with e1 e2
            injection e2 with e2 e3
            injection e3 with e3 e4
            subst e1 e2 e3 e4
            have hs := HS.out
            clear HS
            go_wp2
            rw [Jumps_ret]
            refine bodyPost_ret (results_list (rs := [.tmp 4, .tmp 5, .tmp 6, .tmp 7]) rfl (by simp) (.tmp (.tmp (.tmp (.tmp .nil))))) rfl ?_
            exact ⟨_, rfl, Kd.R_nil _ _ _ _ _, HB.out⟩
          · rw [if_neg cs] at hl
            have HL := Aside0.mk hl
            have hx0 := bt_at a1 at_
            have hb3 := (bt_range a1 at_).1
            have hb4 := (bt_range a1 at_).2
            have p0 : (0 ≤ at_) = True := eq_true (by omega)
            have q0 : (at_ < (a1.size : Int)) = True := eq_true (by omega)
            have hs := HS.out
            clear hl HS
            go_wp2_with (first | ((with_reducible refine gate_builtin (b := .append) (xs := #[.tmp 42, .tmp 47]) rfl ?_); at_builtin; refine Kd.R_append k68 (w0 := w) w.heap.size rfl (.tmp 42) (.tmp 47) 64 68 (.agg #[(.int .i64 0), (.int .i64 0), (.int .i64 0)]) 24 rfl Tryd.underlying64 info68 rfl (by decide) (by omega) (.slice A8 out.length c8) out (⟨60, at_, 8 * (1 + bt a1 (at_ + 1))⟩ : S68) [.int .i64 60, .int .i64 at_, .int .i64 (8 * (1 + bt a1 (at_ + 1)))] (fun _ => True) (fun _ => False) rfl rfl ?aP (fun _ hk => hk.elim) ?aF ?aO ?aB ?aS ?aL ?_; (case aP => exact k68_mkM _ _ _ _); (case aB => exact (sh_B HB)); (case aF => exact (fun _ _ => trivial)); (case aO => exact (by (with_reducible repeat (first | apply Kd.R_alloc | apply Kd.R_drewN | apply Kd.R_drew)); exact HO.out)); (case aS => exact (below_size (sh_B HB))); (case aL => omega); intro v2 w2 ho hb hg hat; have HO2 := Aside0.mk ho; have HB2 := Aside0.mk hb; clear HO HB ho hb hg hat))
            go_step3
            exact ⟨g, Nat.lt_succ_self _, bt a1 at_, at_ + (8 * (1 + bt a1 (at_ + 1))), out ++ [(⟨60, at_, 8 * (1 + bt a1 (at_ + 1))⟩ : S68)], v2, _, _, _, _, _, _, _, _, _, _, _, _, _, _, _, _, _, _, _, _, _, _, _, _, _, _, _, _, _, _, _, _, _, _, _, _, _, _, _, _, _, _, _, _, _, _, _, _, _, rfl, .inl ⟨rfl, HL.out⟩, ⟨by simp; omega, by omega, by omega⟩, HO2.out, HB2.out⟩
        · have en : ip6_Chain.n a1 60 at_ = 8 := by unfold ip6_Chain.n; rw [if_neg (by omega)]
          rw [en] at hl
          rw [if_pos (by omega)] at hl
          injection hl with hl
          injection hl with e1 e2
          injection e2 with e2 e3
          injection e3 with e3 e4
          subst e1 e2 e3 e4
          have hs := HS.out
          clear HS
          go_wp2
          rw [Jumps_ret]
          refine bodyPost_ret (results_list (rs := [.tmp 4, .tmp 5, .tmp 6, .tmp 7]) rfl (by simp) (.tmp (.tmp (.tmp (.tmp .nil))))) rfl ?_
          exact ⟨_, rfl, Kd.R_nil _ _ _ _ _, HB.out⟩
      · rw [if_pos (by simp), if_neg (by omega)] at hl
        by_cases c16 : (out.length : Int) = 16
        · rw [if_pos c16] at hl
          injection hl with hl
          injection hl with e1 e2
          injection e2 with e2 e3
          injection e3 with e3 e4
          subst e1 e2 e3 e4
          have hs := HS.out
          clear HS
          go_wp2
          rw [Jumps_ret]
          refine bodyPost_ret (results_list (rs := [.tmp 4, .tmp 5, .tmp 6, .tmp 7]) rfl (by simp) (.tmp (.tmp (.tmp (.tmp .nil))))) rfl ?_
          exact ⟨_, rfl, Kd.R_nil _ _ _ _ _, HB.out⟩
        rw [if_neg c16] at hl
        have en : ip6_Chain.n a1 44 at_ = 8 := by unfold ip6_Chain.n; rw [if_neg (by omega)]
        rw [en] at hl
        by_cases cs : (a1.size : Int) - at_ < 8
        · rw [if_pos cs] at hl
          injection hl with hl
          injection hl with e1 e2
          injection e2 with e2 e3
          injection e3 with e3 e4
          subst e1 e2 e3 e4
          have hs := HS.out
          clear HS
          go_wp2
          rw [Jumps_ret]
          refine bodyPost_ret (results_list (rs := [.tmp 4, .tmp 5, .tmp 6, .tmp 7]) rfl (by simp) (.tmp (.tmp (.tmp (.tmp .nil))))) rfl ?_
          exact ⟨_, rfl, Kd.R_nil _ _ _ _ _, HB.out⟩
        · rw [if_neg cs] at hl
          have HL := Aside0.mk hl
          have hx0 := bt_at a1 at_
          have hb3 := (bt_range a1 at_).1
          have hb4 := (bt_range a1 at_).2
          have p0 : (0 ≤ at_) = True := eq_true (by omega)
          have q0 : (at_ < (a1.size : Int)) = True := eq_true (by omega)
          have hs := HS.out
          clear hl HS
          go_wp2_with (first | ((with_reducible refine gate_builtin (b := .append) (xs := #[.tmp 42, .tmp 47]) rfl ?_); at_builtin; refine Kd.R_append k68 (w0 := w) w.heap.size rfl (.tmp 42) (.tmp 47) 64 68 (.agg #[(.int .i64 0), (.int .i64 0), (.int .i64 0)]) 24 rfl Tryd.underlying64 info68 rfl (by decide) (by omega) (.slice A8 out.length c8) out (⟨44, at_, 8⟩ : S68) [.int .i64 44, .int .i64 at_, .int .i64 (8)] (fun _ => True) (fun _ => False) rfl rfl ?aP (fun _ hk => hk.elim) ?aF ?aO ?aB ?aS ?aL ?_; (case aP => exact k68_mkM _ _ _ _); (case aB => exact (sh_B HB)); (case aF => exact (fun _ _ => trivial)); (case aO => exact (by (with_reducible repeat (first | apply Kd.R_alloc | apply Kd.R_drewN | apply Kd.R_drew)); exact HO.out)); (case aS => exact (below_size (sh_B HB))); (case aL => omega); intro v2 w2 ho hb hg hat; have HO2 := Aside0.mk ho; have HB2 := Aside0.mk hb; clear HO HB ho hb hg hat))
          go_step3
          exact ⟨g, Nat.lt_succ_self _, bt a1 at_, at_ + 8, out ++ [(⟨44, at_, 8⟩ : S68)], v2, _, _, _, _, _, _, _, _, _, _, _, _, _, _, _, _, _, _, _, _, _, _, _, _, _, _, _, _, _, _, _, _, _, _, _, _, _, _, _, _, _, _, _, _, _, _, _, _, _, rfl, .inl ⟨rfl, HL.out⟩, ⟨by simp; omega, by omega, by omega⟩, HO2.out, HB2.out⟩
   · injection hl with e1 e2
     injection e2 with e2 e3
     injection e3 with e3 e4
     subst e1 e2 e3 e4
     refine ⟨_, rfl, ?_⟩
     go_wp2
     rw [Jumps_ret]
     refine bodyPost_ret (results_list (rs := [.tmp 4, .tmp 5, .tmp 6, .tmp 7]) rfl (by simp) (.tmp (.tmp (.tmp (.tmp .nil))))) rfl ?_
     exact ⟨_, rfl, HO.out, HB.out⟩

/-! ### addr_Valid: function 51 -/
def addr_Valid.f (a0_0 : Bool) (a0_1 : Int) (a0_2 : Int) : Option (Bool) := if a0_0 = true then (some true) else (if a0_1 = 0 then (some (decide (a0_2 < 4294967296))) else (some false))
set_option maxHeartbeats 8000000 in
set_option maxRecDepth 100000 in
theorem addr_Valid.calls (a0_0 : Bool) (a0_1 : Int) (a0_2 : Int) (r : Bool) (w : World) (h : addr_Valid.f a0_0 a0_1 a0_2 = some r) :
  Calls Tryd.prog 51 #[.agg #[.bool a0_0, .int .u64 a0_1, .int .u64 a0_2]] w fun e w' => e = .returned (.bool r) ∧ Below w.heap.size w w' := by
 have hu28 := Tryd.underlying28
 have HB := Aside0.mk (Below.refl w.heap.size w)
 have H : (if a0_0 = true then (some true) else (if a0_1 = 0 then (some (decide (a0_2 < 4294967296))) else (some false))) = some r := h
 clear h
 by_cases c2 : a0_0 = true
 ·
  subst c2
  rw [if_pos rfl] at H
  obtain rfl := Option.some.inj H
  go_enter Tryd.func51, Tryd.ntmps51
  go_wp2_with (first | ((with_reducible refine gate_dst (N := 1) rfl ?_); refine sh_E 1 28 #[.bool true, .int .u64 a0_1, .int .u64 a0_2] ?_; intro gb152 hg w3 hbox hb; have BK152 := Aside0.mk hbox; have GW152 := sh_G HB hg; have GE152 := GW152; replace HB := sh_S HB hb; clear hb hbox hg; obtain ⟨hcz4_0, hcz4_1, hcz4_2⟩ := MBlk.c3 BK152.out; obtain ⟨hfz4_0, hfz4_1, hfz4_2⟩ := MBlk.f3 BK152.out))
  go_ret
  exact ⟨by first | rfl | (simp [errW_none, errW_some] <;> rfl) | (simp [*, errW_none, errW_some] <;> rfl), by repeat (first | (with_reducible first | exact HB.out | apply below_alloc | apply pw_below_drewN | apply below_drew1 | refine below_set ?_ GE152.out) | exact HB.out)⟩
 ·
  replace c2 := Bool.eq_false_iff.mpr c2
  subst c2
  rw [if_neg (show ¬ (false = true) by decide)] at H
  by_cases c5 : a0_1 = 0
  ·
   rw [if_pos c5] at H
   have c5b0 : (a0_1 == 0) = true := beq_iff_eq.mpr c5
   have c5b1 : (a0_1 != 0) = false := bne_eq_false_iff_eq.mpr c5
   clear c5
   obtain rfl := Option.some.inj H
   go_enter Tryd.func51, Tryd.ntmps51
   go_wp2_with (first | ((with_reducible refine gate_dst (N := 1) rfl ?_); refine sh_E 1 28 #[.bool false, .int .u64 a0_1, .int .u64 a0_2] ?_; intro gb152 hg w6 hbox hb; have BK152 := Aside0.mk hbox; have GW152 := sh_G HB hg; have GE152 := GW152; replace HB := sh_S HB hb; clear hb hbox hg; obtain ⟨hcz7_0, hcz7_1, hcz7_2⟩ := MBlk.c3 BK152.out; obtain ⟨hfz7_0, hfz7_1, hfz7_2⟩ := MBlk.f3 BK152.out))
   go_ret
   exact ⟨by first | rfl | (simp [errW_none, errW_some] <;> rfl) | (simp [*, errW_none, errW_some] <;> rfl), by repeat (first | (with_reducible first | exact HB.out | apply below_alloc | apply pw_below_drewN | apply below_drew1 | refine below_set ?_ GE152.out) | exact HB.out)⟩
  ·
   rw [if_neg c5] at H
   have c5b0 : (a0_1 == 0) = false := beq_eq_false_iff_ne.mpr c5
   have c5b1 : (a0_1 != 0) = true := bne_iff_ne.mpr c5
   obtain rfl := Option.some.inj H
   go_enter Tryd.func51, Tryd.ntmps51
   go_wp2_with (first | ((with_reducible refine gate_dst (N := 1) rfl ?_); refine sh_E 1 28 #[.bool false, .int .u64 a0_1, .int .u64 a0_2] ?_; intro gb152 hg w8 hbox hb; have BK152 := Aside0.mk hbox; have GW152 := sh_G HB hg; have GE152 := GW152; replace HB := sh_S HB hb; clear hb hbox hg; obtain ⟨hcz9_0, hcz9_1, hcz9_2⟩ := MBlk.c3 BK152.out; obtain ⟨hfz9_0, hfz9_1, hfz9_2⟩ := MBlk.f3 BK152.out))
   go_ret
   exact ⟨by first | rfl | (simp [errW_none, errW_some] <;> rfl) | (simp [*, errW_none, errW_some] <;> rfl), by repeat (first | (with_reducible first | exact HB.out | apply below_alloc | apply pw_below_drewN | apply below_drew1 | refine below_set ?_ GE152.out) | exact HB.out)⟩

/-! ### addr_classSix: function 52 -/
def addr_classSix.f (a0_0 : Bool) (a0_1 : Int) (a0_2 : Int) : Option (Int) := if (a0_0 && (a0_1 == 0 && (a0_2 == 0))) = true then (some 0) else (if (a0_0 && (a0_1 == 0 && (a0_2 == 1))) = true then (some 1) else (if (a0_1 / 18014398509481984) = 1018 then (some 2) else (if (a0_1 / 72057594037927936) = 255 then (some 3) else (some 5))))
set_option maxHeartbeats 8000000 in
set_option maxRecDepth 100000 in
theorem addr_classSix.calls (a0_0 : Bool) (a0_1 : Int) (a0_2 : Int) (r : Int) (w : World) (h : addr_classSix.f a0_0 a0_1 a0_2 = some r) :
  Calls Tryd.prog 52 #[.agg #[.bool a0_0, .int .u64 a0_1, .int .u64 a0_2]] w fun e w' => e = .returned (.int .i64 r) ∧ Below w.heap.size w w' := by
 have hu28 := Tryd.underlying28
 have HB := Aside0.mk (Below.refl w.heap.size w)
 have H : (if (a0_0 && (a0_1 == 0 && (a0_2 == 0))) = true then (some 0) else (if (a0_0 && (a0_1 == 0 && (a0_2 == 1))) = true then (some 1) else (if (a0_1 / 18014398509481984) = 1018 then (some 2) else (if (a0_1 / 72057594037927936) = 255 then (some 3) else (some 5))))) = some r := h
 clear h
 by_cases c2 : (a0_0 && (a0_1 == 0 && (a0_2 == 0))) = true
 ·
  rw [if_pos c2] at H
  have c2b0 : (a0_0 && (a0_1 == 0 && (a0_2 == 0))) = true := c2
  clear c2
  obtain rfl := Option.some.inj H
  go_enter Tryd.func52, Tryd.ntmps52
  go_wp2_with (first | ((with_reducible refine gate_dst (N := 1) rfl ?_); refine sh_E 1 28 #[.bool a0_0, .int .u64 a0_1, .int .u64 a0_2] ?_; intro gb153 hg w3 hbox hb; have BK153 := Aside0.mk hbox; have GW153 := sh_G HB hg; have GE153 := GW153; replace HB := sh_S HB hb; clear hb hbox hg; obtain ⟨hcz4_0, hcz4_1, hcz4_2⟩ := MBlk.c3 BK153.out; obtain ⟨hfz4_0, hfz4_1, hfz4_2⟩ := MBlk.f3 BK153.out))
  go_ret
  exact ⟨by first | rfl | (simp [errW_none, errW_some] <;> rfl) | (simp [*, errW_none, errW_some] <;> rfl), by repeat (first | (with_reducible first | exact HB.out | apply below_alloc | apply pw_below_drewN | apply below_drew1 | refine below_set ?_ GE153.out) | exact HB.out)⟩
 ·
  rw [if_neg c2] at H
  have c2b0 : (a0_0 && (a0_1 == 0 && (a0_2 == 0))) = false := by simpa using c2
  clear c2
  by_cases c5 : (a0_0 && (a0_1 == 0 && (a0_2 == 1))) = true
  ·
   rw [if_pos c5] at H
   have c5b0 : (a0_0 && (a0_1 == 0 && (a0_2 == 1))) = true := c5
   clear c5
   obtain rfl := Option.some.inj H
   go_enter Tryd.func52, Tryd.ntmps52
   go_wp2_with (first | ((with_reducible refine gate_dst (N := 1) rfl ?_); refine sh_E 1 28 #[.bool a0_0, .int .u64 a0_1, .int .u64 a0_2] ?_; intro gb153 hg w6 hbox hb; have BK153 := Aside0.mk hbox; have GW153 := sh_G HB hg; have GE153 := GW153; replace HB := sh_S HB hb; clear hb hbox hg; obtain ⟨hcz7_0, hcz7_1, hcz7_2⟩ := MBlk.c3 BK153.out; obtain ⟨hfz7_0, hfz7_1, hfz7_2⟩ := MBlk.f3 BK153.out))
   go_ret
   exact ⟨by first | rfl | (simp [errW_none, errW_some] <;> rfl) | (simp [*, errW_none, errW_some] <;> rfl), by repeat (first | (with_reducible first | exact HB.out | apply below_alloc | apply pw_below_drewN | apply below_drew1 | refine below_set ?_ GE153.out) | exact HB.out)⟩
  ·
   rw [if_neg c5] at H
   have c5b0 : (a0_0 && (a0_1 == 0 && (a0_2 == 1))) = false := by simpa using c5
   clear c5
   by_cases c8 : (a0_1 / 18014398509481984) = 1018
   ·
    rw [if_pos c8] at H
    have c8b0 : ((a0_1 / 18014398509481984) == 1018) = true := beq_iff_eq.mpr c8
    have c8b1 : ((a0_1 / 18014398509481984) != 1018) = false := bne_eq_false_iff_eq.mpr c8
    clear c8
    obtain rfl := Option.some.inj H
    go_enter Tryd.func52, Tryd.ntmps52
    go_wp2_with (first | ((with_reducible refine gate_dst (N := 1) rfl ?_); refine sh_E 1 28 #[.bool a0_0, .int .u64 a0_1, .int .u64 a0_2] ?_; intro gb153 hg w9 hbox hb; have BK153 := Aside0.mk hbox; have GW153 := sh_G HB hg; have GE153 := GW153; replace HB := sh_S HB hb; clear hb hbox hg; obtain ⟨hcz10_0, hcz10_1, hcz10_2⟩ := MBlk.c3 BK153.out; obtain ⟨hfz10_0, hfz10_1, hfz10_2⟩ := MBlk.f3 BK153.out))
    go_ret
    exact ⟨by first | rfl | (simp [errW_none, errW_some] <;> rfl) | (simp [*, errW_none, errW_some] <;> rfl), by repeat (first | (with_reducible first | exact HB.out | apply below_alloc | apply pw_below_drewN | apply below_drew1 | refine below_set ?_ GE153.out) | exact HB.out)⟩
   ·
    rw [if_neg c8] at H
    have c8b0 : ((a0_1 / 18014398509481984) == 1018) = false := beq_eq_false_iff_ne.mpr c8
    have c8b1 : ((a0_1 / 18014398509481984) != 1018) = true := bne_iff_ne.mpr c8
    by_cases c11 : (a0_1 / 72057594037927936) = 255
    ·
     rw [if_pos c11] at H
     have c11b0 : ((a0_1 / 72057594037927936) == 255) = true := beq_iff_eq.mpr c11
     have c11b1 : ((a0_1 / 72057594037927936) != 255) = false := bne_eq_false_iff_eq.mpr c11
     clear c11
     obtain rfl := Option.some.inj H
     go_enter Tryd.func52, Tryd.ntmps52
     go_wp2_with (first | ((with_reducible refine gate_dst (N := 1) rfl ?_); refine sh_E 1 28 #[.bool a0_0, .int .u64 a0_1, .int .u64 a0_2] ?_; intro gb153 hg w12 hbox hb; have BK153 := Aside0.mk hbox; have GW153 := sh_G HB hg; have GE153 := GW153; replace HB := sh_S HB hb; clear hb hbox hg; obtain ⟨hcz13_0, hcz13_1, hcz13_2⟩ := MBlk.c3 BK153.out; obtain ⟨hfz13_0, hfz13_1, hfz13_2⟩ := MBlk.f3 BK153.out))
     go_ret
     exact ⟨by first | rfl | (simp [errW_none, errW_some] <;> rfl) | (simp [*, errW_none, errW_some] <;> rfl), by repeat (first | (with_reducible first | exact HB.out | apply below_alloc | apply pw_below_drewN | apply below_drew1 | refine below_set ?_ GE153.out) | exact HB.out)⟩
    ·
     rw [if_neg c11] at H
     have c11b0 : ((a0_1 / 72057594037927936) == 255) = false := beq_eq_false_iff_ne.mpr c11
     have c11b1 : ((a0_1 / 72057594037927936) != 255) = true := bne_iff_ne.mpr c11
     obtain rfl := Option.some.inj H
     go_enter Tryd.func52, Tryd.ntmps52
     go_wp2_with (first | ((with_reducible refine gate_dst (N := 1) rfl ?_); refine sh_E 1 28 #[.bool a0_0, .int .u64 a0_1, .int .u64 a0_2] ?_; intro gb153 hg w14 hbox hb; have BK153 := Aside0.mk hbox; have GW153 := sh_G HB hg; have GE153 := GW153; replace HB := sh_S HB hb; clear hb hbox hg; obtain ⟨hcz15_0, hcz15_1, hcz15_2⟩ := MBlk.c3 BK153.out; obtain ⟨hfz15_0, hfz15_1, hfz15_2⟩ := MBlk.f3 BK153.out))
     go_ret
     exact ⟨by first | rfl | (simp [errW_none, errW_some] <;> rfl) | (simp [*, errW_none, errW_some] <;> rfl), by repeat (first | (with_reducible first | exact HB.out | apply below_alloc | apply pw_below_drewN | apply below_drew1 | refine below_set ?_ GE153.out) | exact HB.out)⟩

end Go.Proofs.YtaoopneiglgnkaaDoor.PBase
