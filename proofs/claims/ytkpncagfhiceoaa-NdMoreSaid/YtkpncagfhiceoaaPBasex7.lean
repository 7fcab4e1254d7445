/- Functions of the program as Lean functions, each with a proof that a call comes to what it says. Conditions: those of each theorem. Laid by a program of this session. -/
import Derived.Test.YtkpncagfhiceoaaPBasex0
import Derived.Test.YtkpncagfhiceoaaPBasex6
namespace Go.Proofs.Ytkpncagfhiceoaa.PBase
open Go.RowKit Go.Proofs.Ytkpncagfhiceoaa Go.Proofs.YtkpncagfhiceoaaW.PrintWords Go.Proofs.YtkpncagfhiceoaaW.PrintLast Go.Proofs.YtkpncagfhiceoaaW.PrintMore
attribute [local go_sem] max2_int min2_int max_two min_two max_three min_three max_four min_four   -- for this text's walks alone
set_option linter.unusedVariables false
set_option linter.unusedSimpArgs false

/-! ### nd_laid: function 19 (by hand) -/
/-- What a message is laid as: its kind and rest, the kind of its option; an address, and the Mac that it tells. -/
def nd_laid.f (k : Nat) (kind rest opt : Int) (t : Bool) (h l : Int) (has : Bool) (m : Int) : Option (Bool × Int × Int × Int × ByteArray × Int) :=
 (nd_may.f t h l has m).bind fun y => if y = false then some (false, 0, 0, 0, ⟨#[]⟩, 80) else
 (addr_Bytes.f k t h l).bind fun b => if 1000 < b.length then none else
 if has = true then some (true, kind, 0, rest, strOfNums (b ++ [opt, 1] ++ MBe.be m 6), 0) else some (true, kind, 0, rest, strOfNums b, 0)
theorem nd_laid.mono : ∀ k a b c t h l d m, LeO (nd_laid.f k a b c t h l d m) (nd_laid.f (k + 1) a b c t h l d m) := by
 intro k a b c t h l d m
 unfold nd_laid.f
 refine LeO.bind (LeO.refl _) (fun _ => LeO.ite (LeO.refl _) (LeO.bind (addr_Bytes.mono _ _ _ _) (fun _ => LeO.refl _)))
def nd_laid.v (r : Bool × Int × Int × Int × ByteArray × Int) : Value := .tuple #[.agg #[.bool r.1, .int .i64 r.2.1, .int .i64 r.2.2.1, .int .i64 r.2.2.2.1, .string r.2.2.2.2.1], .int .i64 r.2.2.2.2.2]
/-- Blocks that are known whole; nothing below wb has changed. -/
structure BS (wb : World) (bs : List (Nat × Obj)) (W : World) : Prop where mk ::
 (keep : ∀ x ∈ bs, W.heap[x.1]? = some x.2)
 (below : Below wb.heap.size wb W)
section
variable {wb W W2 : World} {bs : List (Nat × Obj)}
theorem BS.more (h : BS wb bs W) (hb : Below W.heap.size W W2) : BS wb bs W2 := ⟨fun x hx => MStr.block_below (h.keep x hx) hb, below_then h.below h.below.size hb⟩
theorem BS.drew (h : BS wb bs W) : BS wb bs W.drew := h.more (below_drew1 (Below.refl _ _))
theorem BS.drewN (h : BS wb bs W) (n : Nat) : BS wb bs (W.drewN n) := h.more (pw_below_drewN (Below.refl _ _) n)
theorem BS.alloc (h : BS wb bs W) (o : Obj) : BS wb ((W.heap.size, o) :: bs) (W.alloc o) := by
 have h2 := h.more (W2 := W.alloc o) (below_alloc (Below.refl _ _) o)
 refine ⟨fun x hx => ?_, h2.below⟩
 rcases List.mem_cons.1 hx with rfl | hx
 · exact heap_alloc_new W o
 · exact h2.keep x hx
theorem BS.set {gp t : Nat} {cs : Array Value} (h : BS wb ((gp, .cells cs t (0, 0)) :: bs) W) (hge : wb.heap.size ≤ gp) (hne : ∀ x ∈ bs, x.1 ≠ gp) (j : Nat) (v : Value) :
  BS wb ((gp, .cells (cs.setIfInBounds j v) t (0, 0)) :: bs) (W.setCell ⟨gp, j, none⟩ v) := by
 have h1 := h.keep _ (List.mem_cons_self ..)
 refine ⟨fun x hx => ?_, below_set h.below hge⟩
 rcases List.mem_cons.1 hx with rfl | hx
 · exact MReader.setCell_heap h1
 · exact (Below.heap_setCell W ⟨gp, j, none⟩ v x.1 (hne x hx)).trans (h.keep x (List.mem_cons_of_mem _ hx))
theorem BS.set' {gp t : Nat} {cs cs2 : Array Value} (h : BS wb ((gp, .cells cs t (0, 0)) :: bs) W) (hge : wb.heap.size ≤ gp) (hne : ∀ x ∈ bs, x.1 ≠ gp) (j : Nat) (v : Value) (he : cs.setIfInBounds j v = cs2) :
  BS wb ((gp, .cells cs2 t (0, 0)) :: bs) (W.setCell ⟨gp, j, none⟩ v) := he ▸ h.set hge hne j v
theorem BS.cell (h : BS wb bs W) {gp t j : Nat} {cs : Array Value} {v : Value} (hm : (gp, Obj.cells cs t (0, 0)) ∈ bs) (hj : cs[j]? = some v) : W.cell? ⟨gp, j, none⟩ = some v := MStr.block_cell (h.keep _ hm) hj
theorem BS.free (h : BS wb bs W) {gp t : Nat} (j : Nat) {cs : Array Value} (hm : (gp, Obj.cells cs t (0, 0)) ∈ bs) : W.frozen? ⟨gp, j, none⟩ = false := MStr.block_frozen (h.keep _ hm)
end

theorem nd_laid.alloc2 (w : World) (o p : Obj) : ((w.alloc o).alloc p).drew.heap[w.heap.size + 1]? = some p := by
 have h := heap_alloc_new (w.alloc o) p
 rw [show (w.alloc o).heap.size = w.heap.size + 1 by simp] at h
 exact h
set_option maxHeartbeats 1000000 in
set_option maxRecDepth 100000 in
theorem nd_ask_whom.calls (t : Bool) (h l : Int) (has : Bool) (m : Int) (w : World) :
  Calls Try.prog 52 #[.agg #[.bool t, .int .u64 h, .int .u64 l, .bool has, .int .u64 m]] w fun e w' => e = .returned (.tuple #[.agg #[.bool t, .int .u64 h, .int .u64 l], .bool has, .int .u64 m]) ∧ Below w.heap.size w w' := by
 go_enter Try.func52, Try.ntmps52
 go_wp2
 go_region
 go_wp2
 refine bodyPost_ret (results_ctt rfl _ _ _ 24 #[.bool t, .int .u64 h, .int .u64 l] (0, 0) _ rfl (nd_laid.alloc2 w _ _) Try.underlying24 rfl (by kernel_rfl)) rfl ⟨rfl, by go_grown⟩
set_option maxHeartbeats 1000000 in
set_option maxRecDepth 100000 in
theorem nd_laid.ask (k : Nat) (t : Bool) (h l : Int) (has : Bool) (m : Int) (r : Bool × Int × Int × Int × ByteArray × Int) (w : World) (hf : nd_laid.f k 135 0 1 t h l has m = some r) :
  Calls Try.prog 19 #[.iface 55 (.agg #[.bool t, .int .u64 h, .int .u64 l, .bool has, .int .u64 m])] w fun e w' => e = .returned (nd_laid.v r) ∧ Below w.heap.size w w' := by
 have HF := Aside0.mk hf
 clear hf
 have hu1 := Try.underlying32
 have hu2 := Try.underlying24
 have ta : ∀ (v : Value) (W : World), (Instr.typeAssert (.iface 55 v) 64 55 true).run Try.prog W = .ok (.tuple #[v, .bool true]) W := fun _ _ => by kernel_rfl
 go_enter Try.func19, Try.ntmps19
 go_wp2_with fail
 refine (nd_ask_whom.calls t h l has m _).mono ?_
 rintro e w2 ⟨rfl, hb⟩
 have HK2 := Aside0.mk (MStr.block_below (MStr.block_below (heap_alloc_new w (.cells #[.bool false, .int .i64 0, .int .i64 0, .int .i64 0, .string ⟨#[]⟩] 32)) (below_alloc (Below.refl _ _) _)) hb)
 have HK4 := Aside0.mk (MStr.block_below (MStr.alloc2_new w _ _) hb)
 have HB := Aside0.mk (show Below w.heap.size w w2 from below_step (by go_grown) hb)
 have HZ := Aside0.mk (show w.heap.size + 1 < w2.heap.size by have := hb.size; simp at this; omega)
 clear hb
 obtain ⟨y, hy, hf⟩ := Option.bind_eq_some_iff.1 HF.out
 have HY := Aside0.mk hy; have HF2 := Aside0.mk hf
 clear HF hy hf
 go_wp2_with fail
 refine (nd_may.calls t h l has m y _ HY.out).mono ?_
 rintro e w3 ⟨rfl, hb⟩
 have HB2 := Aside0.mk (show Below w2.heap.size w2 w3 from below_step (by go_grown) hb)
 have HK6 := Aside0.mk (MStr.block_below (MStr.block_below (heap_alloc_new w2 (.cells #[.bool t, .int .u64 h, .int .u64 l] 24)) (below_alloc (Below.refl _ _) _)) hb)
 replace HK2 := Aside0.mk (MStr.block_below HK2.out HB2.out); replace HK4 := Aside0.mk (MStr.block_below HK4.out HB2.out)
 replace HB := Aside0.mk (below_step HB.out HB2.out); replace HZ := Aside0.mk (show w.heap.size + 1 < w3.heap.size from Nat.lt_of_lt_of_le HZ.out HB2.out.size)
 clear hb HB2
 obtain ⟨x0, x1, x2, x3, x4⟩ := MBlk.c5 HK2.out
 obtain ⟨f0, f1, f2, f3, f4⟩ := MBlk.f5 HK2.out
 cases y with
 | false =>
  obtain rfl := Option.some.inj ((if_pos rfl).symm.trans HF2.out)
  go_wp2_with fail
  refine bodyPost_ret (results_ct rfl _ _ _ 32 #[.bool false, .int .i64 0, .int .i64 0, .int .i64 0, .string ⟨#[]⟩] (0, 0) _ rfl (MStr.put5 HK2.out _ _ _ _ _) Try.underlying32 rfl (by kernel_rfl)) rfl ?_
  exact ⟨rfl, MStr.put5_below HB.out (Nat.le_refl _) _ _ _ _ _⟩
 | true =>
  have h0 := HF2.out
  rw [if_neg (by decide)] at h0
  obtain ⟨b, hbs, h1⟩ := Option.bind_eq_some_iff.1 h0
  have HBS := Aside0.mk hbs
  by_cases hbl : 1000 < b.length
  · rw [if_pos hbl] at h1; cases h1
  rw [if_neg hbl] at h1
  have HF3 := Aside0.mk h1
  have HBL := Aside0.mk hbl
  obtain ⟨y0, y1, y2⟩ := MBlk.c3 HK6.out
  clear h0 h1 hbs HF2 x0 x1 x2 x3 x4 f0 f1 f2 f3 f4 hbl
  go_wp2_with fail
  refine (addr_Bytes.calls k t h l b _ HBS.out).mono ?_
  rintro e w4 ⟨v4, rfl, ho, hb⟩
  have HVB := Aside0.mk (show ∀ q, v4.ownBlock = some q → w3.heap.size ≤ q from fun q hq => Kd.R_base ho q hq)
  have HO := Aside0.mk (show Kd.R (Kd.int .u8) 5 w4 w.heap.size (fun _ => True) v4 b from Kd.R_lower ho (by have := HZ.out; omega))
  replace HK2 := Aside0.mk (MStr.block_below HK2.out hb); replace HK4 := Aside0.mk (MStr.block_below HK4.out hb)
  replace HB := Aside0.mk (below_step HB.out hb)
  clear hb ho y0 y1 y2
  have hs1 := HZ.out
  cases has with
  | true =>
   have hq := HF3.out
   rw [if_pos rfl] at hq
   obtain rfl := Option.some.inj hq
   clear hq HF3
   go_wp2_with (first | ((with_reducible refine gate_dst (N := 54) rfl ?_); refine Kd.R_lit (Kd.int .u8) _ 5 ?hg (N := 54) ?hd (xs := ([1, 1] : List Int)) (inner := [.int .u8 1, .int .u8 1]) (ok := fun _ => True) (okp := fun _ => True) ?hr ?hp (fun _ hk => hk) trivial (Below.refl _ _) (Nat.le_refl _) (by simp) ?_; (case hd => rfl); (case hg => rfl); (case hr => first | (go_simp; done) | (go_simp; rfl)); (case hp => exact (Reps.one (show Kd.M (Kd.int .u8) _ _ _ 1 [.int .u8 1] from rfl) (Reps.one (show Kd.M (Kd.int .u8) _ _ _ 1 [.int .u8 1] from rfl) (Reps.none _ _)))); intro v7 w7 ho hb hg_ hnew_; clear hg_ hnew_; obtain ⟨A7, c7, e_⟩ := Kd.R_slice ho; subst e_; have C7 := Aside0.mk (Kd.R_reads' ho).2.2; have L7 := Aside0.mk (Kd.R_reads' ho).2.1; clear ho; replace HO := Aside0.mk (Kd.R_below HO.out hb); replace HK2 := Aside0.mk (MStr.block_below HK2.out hb); replace HK4 := Aside0.mk (MStr.block_below HK4.out hb); replace HB := Aside0.mk (below_step (by repeat (first | (with_reducible first | exact HB.out | apply below_alloc | apply pw_below_drewN | apply below_drew1) | exact HB.out)) hb); clear hb) | ((with_reducible refine gate_builtin (b := .append) (xs := #[.tmp 51, .tmp 54]) rfl ?_); at_builtin; refine Kd.R_append_rows (Kd.int .u8) (w0 := w) w.heap.size rfl (.tmp 51) (.tmp 54) 49 5 (.int .u8 0) 1 rfl Try.underlying49 info5 rfl (by decide) (by omega) v4 b [1, 1] _ _ _ (fun _ => True) (fun _ => False) rfl rfl ?aO ?aR (fun _ _ h => h) (fun _ h => h.elim) ?aF ?aB ?aS ?aL ?_; (case aR => exact C7.out); (case aB => exact HB.out); (case aF => exact (fun _ _ => trivial)); (case aO => exact HO.out); (case aS => exact HB.out.size); (case aL => have := HBL.out; simp only [List.length_cons, List.length_nil]; omega); intro v8 w8 ho hb hg hat; have n0_ := Aside0.mk hb; have O8 := Aside0.mk ho; replace HK2 := Aside0.mk ((hg.block _ (Array.getElem?_eq_some_iff.1 HK2.out).1 (fun e => by have := HVB.out _ e.symm; have := HZ.out; omega)).trans HK2.out); replace HK4 := Aside0.mk ((hg.block _ (Array.getElem?_eq_some_iff.1 HK4.out).1 (fun e => by have := HVB.out _ e.symm; have := HZ.out; omega)).trans HK4.out); obtain ⟨A8, c8, e8⟩ := Kd.R_slice ho; subst e8; clear HB; have HB := n0_; clear n0_; clear ho hb hg hat))
   have hput := octet_Put.calls A8 c8 (b ++ [1, 1]) 6 m (b ++ [1, 1] ++ MBe.be m 6) _ (Kd.R_reads' O8.out).2.2 (Kd.R_reads' O8.out).2.1 (if_pos (by have := HBL.out; rw [List.length_append]; simp only [List.length_cons, List.length_nil]; omega))
   rw [show (b ++ [1, 1] : List Int).length = b.length + 2 by simp] at hput
   refine hput.mono ?_
   clear hput
   rintro e w9 ⟨v9, rfl, ho9, hb⟩
   replace HK2 := Aside0.mk (MStr.block_below HK2.out hb); replace HK4 := Aside0.mk (MStr.block_below HK4.out hb)
   replace HB := Aside0.mk (below_step HB.out hb)
   obtain ⟨A9, c9, rfl⟩ := Kd.R_slice ho9
   have hcv := Kd.C_string (src := 49) (dst := 9) (e := 5) (c := c9) Try.underlying49 Try.underlying5 Try.underlying9 (Kd.R_reads' ho9).2.2
   clear ho9 hb
   obtain ⟨L, hL⟩ : ∃ L, b ++ [1, 1] ++ MBe.be m 6 = L := ⟨_, rfl⟩
   rw [hL] at hcv ⊢
   have HL := Aside0.mk hL
   clear hL
   obtain ⟨x0, x1, x2, x3, x4⟩ := MBlk.c5 HK2.out
   obtain ⟨f0, f1, f2, f3, f4⟩ := MBlk.f5 HK2.out
   obtain ⟨y0, y1, y2, y3, y4⟩ := MBlk.c5 HK4.out
   obtain ⟨g0, g1, g2, g3, g4⟩ := MBlk.f5 HK4.out
   go_wp2_with fail
   refine bodyPost_ret (results_ct rfl _ _ _ 32 #[.bool true, .int .i64 135, .int .i64 0, .int .i64 0, .string (strOfNums L)] (0, 0) _ rfl (MStr.put5 ((Below.heap_setCell _ ⟨w.heap.size + 1, 4, none⟩ _ _ (by simp)).trans HK2.out) _ _ _ _ _) Try.underlying32 rfl (by kernel_rfl)) rfl ?_
   exact ⟨by rw [← HL.out]; rfl, MStr.put5_below (below_set HB.out (by omega)) (Nat.le_refl _) _ _ _ _ _⟩
  | false =>
   have hq := HF3.out
   rw [if_neg (by decide)] at hq
   obtain rfl := Option.some.inj hq
   clear hq HF3
   obtain ⟨A9, c9, rfl⟩ := Kd.R_slice HO.out
   have hcv := Kd.C_string (src := 49) (dst := 9) (e := 5) (c := c9) Try.underlying49 Try.underlying5 Try.underlying9 (Kd.R_reads' HO.out).2.2
   obtain ⟨x0, x1, x2, x3, x4⟩ := MBlk.c5 HK2.out
   obtain ⟨f0, f1, f2, f3, f4⟩ := MBlk.f5 HK2.out
   obtain ⟨y0, y1, y2, y3, y4⟩ := MBlk.c5 HK4.out
   obtain ⟨g0, g1, g2, g3, g4⟩ := MBlk.f5 HK4.out
   go_wp2_with fail
   refine bodyPost_ret (results_ct rfl _ _ _ 32 #[.bool true, .int .i64 135, .int .i64 0, .int .i64 0, .string (strOfNums b)] (0, 0) _ rfl (MStr.put5 ((Below.heap_setCell _ ⟨w.heap.size + 1, 4, none⟩ _ _ (by simp)).trans HK2.out) _ _ _ _ _) Try.underlying32 rfl (by kernel_rfl)) rfl ?_
   exact ⟨rfl, MStr.put5_below (below_set HB.out (by omega)) (Nat.le_refl _) _ _ _ _ _⟩
/-! Tell. -/
set_option maxHeartbeats 1000000 in
set_option maxRecDepth 100000 in
theorem nd_tell_whom.calls (t : Bool) (h l : Int) (br ba bo has : Bool) (m : Int) (w : World) :
  Calls Try.prog 53 #[.agg #[.bool t, .int .u64 h, .int .u64 l, .bool br, .bool ba, .bool bo, .bool has, .int .u64 m]] w fun e w' => e = .returned (.tuple #[.agg #[.bool t, .int .u64 h, .int .u64 l], .bool has, .int .u64 m]) ∧ Below w.heap.size w w' := by
 go_enter Try.func53, Try.ntmps53
 go_wp2
 go_region
 go_wp2
 refine bodyPost_ret (results_ctt rfl _ _ _ 24 #[.bool t, .int .u64 h, .int .u64 l] (0, 0) _ rfl (nd_laid.alloc2 w _ _) Try.underlying24 rfl (by kernel_rfl)) rfl ⟨rfl, by go_grown⟩
def nd_laid.n (b : Bool) (n : Int) : Int := if b = true then shl .i64 1 n else 0
/-- What an Advert's four bytes say. -/
def nd_laid.rest (br ba bo : Bool) : Int := Go.bits .or .i64 (Go.bits .or .i64 (nd_laid.n br 31) (nd_laid.n ba 30)) (nd_laid.n bo 29)
set_option maxHeartbeats 1000000 in
theorem nd_bit.same (b : Bool) (n v : Int) (h0 : 0 ≤ n) (hv : nd_laid.n b n = v) (w : World) :
  Calls Try.prog 23 #[.bool b, .int .i64 n] w fun e w' => e = .returned (.int .i64 v) ∧ w' = w := by
 subst hv
 cases b
 all_goals
  go_enter Try.func23, Try.ntmps23
  go_wp2
  go_ret
  exact ⟨by first | rfl | (simp [nd_laid.n, shl, i64_w, IntKind.bits]; done), rfl⟩
set_option maxHeartbeats 1000000 in
set_option maxRecDepth 100000 in
theorem nd_laid.tell (k : Nat) (t : Bool) (h l : Int) (br ba bo has : Bool) (m : Int) (r : Bool × Int × Int × Int × ByteArray × Int) (w : World) (hf : nd_laid.f k 136 (nd_laid.rest br ba bo) 2 t h l has m = some r) :
  Calls Try.prog 19 #[.iface 59 (.agg #[.bool t, .int .u64 h, .int .u64 l, .bool br, .bool ba, .bool bo, .bool has, .int .u64 m])] w fun e w' => e = .returned (nd_laid.v r) ∧ Below w.heap.size w w' := by
 have HF := Aside0.mk hf
 clear hf
 have hu1 := Try.underlying32
 have hu2 := Try.underlying24
 have ta : ∀ (v : Value) (W : World), (Instr.typeAssert (.iface 59 v) 64 55 true).run Try.prog W = .ok (.tuple #[.agg #[.bool false, .int .u64 0, .int .u64 0, .bool false, .int .u64 0], .bool false]) W := fun _ _ => by kernel_rfl
 have tb : ∀ (v : Value) (W : World), (Instr.typeAssert (.iface 59 v) 64 59 true).run Try.prog W = .ok (.tuple #[v, .bool true]) W := fun _ _ => by kernel_rfl
 obtain ⟨n31, hn31⟩ : ∃ n, nd_laid.n br 31 = n := ⟨_, rfl⟩
 obtain ⟨n30, hn30⟩ : ∃ n, nd_laid.n ba 30 = n := ⟨_, rfl⟩
 obtain ⟨n29, hn29⟩ : ∃ n, nd_laid.n bo 29 = n := ⟨_, rfl⟩
 obtain ⟨n1, hn1⟩ : ∃ n, Go.bits .or .i64 n31 n30 = n := ⟨_, rfl⟩
 obtain ⟨rest, hn2⟩ : ∃ n, Go.bits .or .i64 n1 n29 = n := ⟨_, rfl⟩
 rw [show nd_laid.rest br ba bo = rest by unfold nd_laid.rest; rw [hn31, hn30, hn29, hn1, hn2]] at HF
 have H31 := Aside0.mk hn31; have H30 := Aside0.mk hn30; have H29 := Aside0.mk hn29
 clear hn31 hn30 hn29
 go_enter Try.func19, Try.ntmps19
 go_wp2_with fail
 refine (nd_tell_whom.calls t h l br ba bo has m _).mono ?_
 rintro e w2 ⟨rfl, hb⟩
 have HK2 := Aside0.mk (MStr.block_below (MStr.block_below (heap_alloc_new w (.cells #[.bool false, .int .i64 0, .int .i64 0, .int .i64 0, .string ⟨#[]⟩] 32)) (below_alloc (Below.refl _ _) _)) hb)
 have HK4 := Aside0.mk (MStr.block_below (MStr.alloc2_new w _ _) hb)
 have HB := Aside0.mk (show Below w.heap.size w w2 from below_step (by go_grown) hb)
 have HZ := Aside0.mk (show w.heap.size + 1 < w2.heap.size by have := hb.size; simp at this; omega)
 clear hb
 obtain ⟨y, hy, hf⟩ := Option.bind_eq_some_iff.1 HF.out
 have HY := Aside0.mk hy; have HF2 := Aside0.mk hf
 clear HF hy hf
 have hz1 : w.heap.size + 1 < w2.heap.size := HZ.out
 have HKA := Aside0.mk (MStr.block_below HK4.out (below_alloc (below_alloc (Below.refl w2.heap.size w2) (.cells #[.bool t, .int .u64 h, .int .u64 l] 24)) (.cells #[.bool t, .int .u64 h, .int .u64 l, .bool br, .bool ba, .bool bo, .bool has, .int .u64 m] 59)))
 obtain ⟨y0, y1, y2, y3, y4⟩ := MBlk.c5 HKA.out
 obtain ⟨g0, g1, g2, g3, g4⟩ := MBlk.f5 HKA.out
 go_wp2_with fail
 obtain ⟨wa, hwa⟩ : ∃ wa, (((w2.alloc (.cells #[.bool t, .int .u64 h, .int .u64 l] 24)).alloc (.cells #[.bool t, .int .u64 h, .int .u64 l, .bool br, .bool ba, .bool bo, .bool has, .int .u64 m] 59)).setCell ⟨w.heap.size + 1, 1, none⟩ (.int .i64 136)) = wa := ⟨_, rfl⟩
 have hfar : ∀ q, q ≠ w.heap.size + 1 → wa.heap[q]? = ((w2.alloc (.cells #[.bool t, .int .u64 h, .int .u64 l] 24)).alloc (.cells #[.bool t, .int .u64 h, .int .u64 l, .bool br, .bool ba, .bool bo, .bool has, .int .u64 m] 59)).heap[q]? := fun q hq => by rw [← hwa]; exact Below.heap_setCell _ ⟨w.heap.size + 1, 1, none⟩ _ q hq
 have HKX := Aside0.mk ((hfar (w2.heap.size + 1) (by omega)).trans (MStr.alloc2_new w2 _ _))
 have HK6 := Aside0.mk ((hfar w2.heap.size (by omega)).trans (MStr.block_below (heap_alloc_new w2 (.cells #[.bool t, .int .u64 h, .int .u64 l] 24)) (below_alloc (Below.refl _ _) _)))
 replace HK4 : Aside0 (wa.heap[w.heap.size + 1]? = some (.cells #[.bool true, .int .i64 136, .int .i64 0, .int .i64 0, .string ⟨#[]⟩] 32 (0, 0))) := ⟨by rw [← hwa]; exact MReader.setCell_heap HKA.out⟩
 replace HK2 := Aside0.mk ((hfar w.heap.size (by omega)).trans (MStr.block_below HK2.out (below_alloc (below_alloc (Below.refl w2.heap.size w2) _) _)))
 have HBA := Aside0.mk (show Below w.heap.size w wa by rw [← hwa]; exact below_set (below_alloc (below_alloc HB.out _) _) (by omega))
 have HZA := Aside0.mk (show w2.heap.size + 1 < wa.heap.size from (Array.getElem?_eq_some_iff.1 HKX.out).1)
 rw [hwa]
 clear hwa hfar HKA y0 y1 y2 y3 y4 g0 g1 g2 g3 g4
 obtain ⟨y0, y1, y2, y3, y4⟩ := MBlk.c5 HK4.out
 obtain ⟨g0, g1, g2, g3, g4⟩ := MBlk.f5 HK4.out
 obtain ⟨z0, z1, z2, z3, z4, z5, z6, z7⟩ := MBlk.c8 HKX.out
 clear z0 z1 z2 z6 z7
 have HKP := Aside0.mk (show ∀ (v : Value) (j : Nat), (wa.setCell ⟨w.heap.size + 1, 3, none⟩ v).drew.cell? ⟨w2.heap.size + 1, j, none⟩ = wa.cell? ⟨w2.heap.size + 1, j, none⟩ from fun v j => cell_far (W := wa) (p := ⟨w.heap.size + 1, 3, none⟩) (a := ⟨w2.heap.size + 1, j, none⟩) (by simp only; omega) v)
 go_region_held3 (fun w' => w'.cell? ⟨w2.heap.size + 1, 3, none⟩ = some (.bool br) ∧ w'.cell? ⟨w2.heap.size + 1, 4, none⟩ = some (.bool ba) ∧ w'.cell? ⟨w2.heap.size + 1, 5, none⟩ = some (.bool bo)) (first | (go_keep; done) | (exact ⟨(HKP.out _ 3).trans z3, (HKP.out _ 4).trans z4, (HKP.out _ 5).trans z5⟩)) (first | (have q_ := H31; go_at_call 23; refine (nd_bit.same br 31 n31 (by decide) H31.out _).mono ?_; rintro e w_ ⟨rfl, rfl⟩; clear H31 q_) | (have q_ := H30; go_at_call 23; refine (nd_bit.same ba 30 n30 (by decide) H30.out _).mono ?_; rintro e w_ ⟨rfl, rfl⟩; clear H30 q_) | (go_at_call 23; refine (nd_bit.same bo 29 n29 (by decide) H29.out _).mono ?_; rintro e w_ ⟨rfl, rfl⟩))
 have hbz : w.heap.size + 1 ≠ w2.heap.size := by omega
 obtain ⟨wb, hwb⟩ : ∃ wb, (wa.setCell ⟨w.heap.size + 1, 3, none⟩ (.int .i64 rest)).drew = wb := ⟨_, rfl⟩
 have hfar : ∀ q, q ≠ w.heap.size + 1 → wb.heap[q]? = wa.heap[q]? := fun q hq => by rw [← hwb]; exact Below.heap_setCell _ ⟨w.heap.size + 1, 3, none⟩ _ q hq
 replace HK6 := Aside0.mk ((hfar w2.heap.size (by omega)).trans HK6.out)
 replace HK4 : Aside0 (wb.heap[w.heap.size + 1]? = some (.cells #[.bool true, .int .i64 136, .int .i64 0, .int .i64 rest, .string ⟨#[]⟩] 32 (0, 0))) := ⟨by rw [← hwb]; exact MReader.setCell_heap HK4.out⟩
 replace HK2 := Aside0.mk ((hfar w.heap.size (by omega)).trans HK2.out)
 replace HB := Aside0.mk (show Below w.heap.size w wb by rw [← hwb]; exact below_drew1 (below_set HBA.out (by omega)))
 rw [hwb]
 clear hwb hfar HKX HBA HKP z3 z4 z5 y0 y1 y2 y3 y4 g0 g1 g2 g3 g4 hbz
 have hzb : w.heap.size + 1 < wb.heap.size := (Array.getElem?_eq_some_iff.1 HK4.out).1
 have HZB := Aside0.mk hzb
 obtain ⟨a0, a1, a2⟩ := MBlk.c3 HK6.out
 go_wp2_with fail
 refine (nd_may.calls t h l has m y _ HY.out).mono ?_
 rintro e w3 ⟨rfl, hb⟩
 replace HK2 := Aside0.mk (MStr.block_below HK2.out hb); replace HK4 := Aside0.mk (MStr.block_below HK4.out hb); replace HK6 := Aside0.mk (MStr.block_below HK6.out hb)
 replace HB := Aside0.mk (below_step HB.out hb); replace HZ := Aside0.mk (show w.heap.size + 1 < w3.heap.size from Nat.lt_of_lt_of_le HZB.out hb.size)
 clear hb a0 a1 a2
 obtain ⟨x0, x1, x2, x3, x4⟩ := MBlk.c5 HK2.out
 obtain ⟨f0, f1, f2, f3, f4⟩ := MBlk.f5 HK2.out
 cases y with
 | false =>
  obtain rfl := Option.some.inj ((if_pos rfl).symm.trans HF2.out)
  go_wp2_with fail
  refine bodyPost_ret (results_ct rfl _ _ _ 32 #[.bool false, .int .i64 0, .int .i64 0, .int .i64 0, .string ⟨#[]⟩] (0, 0) _ rfl (MStr.put5 HK2.out _ _ _ _ _) Try.underlying32 rfl (by kernel_rfl)) rfl ?_
  exact ⟨rfl, MStr.put5_below HB.out (Nat.le_refl _) _ _ _ _ _⟩
 | true =>
  have h0 := HF2.out
  rw [if_neg (by decide)] at h0
  obtain ⟨b, hbs, h1⟩ := Option.bind_eq_some_iff.1 h0
  have HBS := Aside0.mk hbs
  by_cases hbl : 1000 < b.length
  · rw [if_pos hbl] at h1; cases h1
  rw [if_neg hbl] at h1
  have HF3 := Aside0.mk h1
  have HBL := Aside0.mk hbl
  obtain ⟨y0, y1, y2⟩ := MBlk.c3 HK6.out
  clear h0 h1 hbs HF2 x0 x1 x2 x3 x4 f0 f1 f2 f3 f4 hbl
  go_wp2_with fail
  refine (addr_Bytes.calls k t h l b _ HBS.out).mono ?_
  rintro e w4 ⟨v4, rfl, ho, hb⟩
  have HVB := Aside0.mk (show ∀ q, v4.ownBlock = some q → w3.heap.size ≤ q from fun q hq => Kd.R_base ho q hq)
  have HO := Aside0.mk (show Kd.R (Kd.int .u8) 5 w4 w.heap.size (fun _ => True) v4 b from Kd.R_lower ho (by have := HZ.out; omega))
  replace HK2 := Aside0.mk (MStr.block_below HK2.out hb); replace HK4 := Aside0.mk (MStr.block_below HK4.out hb)
  replace HB := Aside0.mk (below_step HB.out hb)
  clear hb ho y0 y1 y2
  have hs1 := HZ.out
  cases has with
  | true =>
   have hq := HF3.out
   rw [if_pos rfl] at hq
   obtain rfl := Option.some.inj hq
   clear hq HF3
   go_wp2_with (first | ((with_reducible refine gate_dst (N := 54) rfl ?_); refine Kd.R_lit (Kd.int .u8) _ 5 ?hg (N := 54) ?hd (xs := ([2, 1] : List Int)) (inner := [.int .u8 2, .int .u8 1]) (ok := fun _ => True) (okp := fun _ => True) ?hr ?hp (fun _ hk => hk) trivial (Below.refl _ _) (Nat.le_refl _) (by simp) ?_; (case hd => rfl); (case hg => rfl); (case hr => first | (go_simp; done) | (go_simp; rfl)); (case hp => exact (Reps.one (show Kd.M (Kd.int .u8) _ _ _ 2 [.int .u8 2] from rfl) (Reps.one (show Kd.M (Kd.int .u8) _ _ _ 1 [.int .u8 1] from rfl) (Reps.none _ _)))); intro v7 w7 ho hb hg_ hnew_; clear hg_ hnew_; obtain ⟨A7, c7, e_⟩ := Kd.R_slice ho; subst e_; have C7 := Aside0.mk (Kd.R_reads' ho).2.2; have L7 := Aside0.mk (Kd.R_reads' ho).2.1; clear ho; replace HO := Aside0.mk (Kd.R_below HO.out hb); replace HK2 := Aside0.mk (MStr.block_below HK2.out hb); replace HK4 := Aside0.mk (MStr.block_below HK4.out hb); replace HB := Aside0.mk (below_step (by repeat (first | (with_reducible first | exact HB.out | apply below_alloc | apply pw_below_drewN | apply below_drew1) | exact HB.out)) hb); clear hb) | ((with_reducible refine gate_builtin (b := .append) (xs := #[.tmp 51, .tmp 54]) rfl ?_); at_builtin; refine Kd.R_append_rows (Kd.int .u8) (w0 := w) w.heap.size rfl (.tmp 51) (.tmp 54) 49 5 (.int .u8 0) 1 rfl Try.underlying49 info5 rfl (by decide) (by omega) v4 b [2, 1] _ _ _ (fun _ => True) (fun _ => False) rfl rfl ?aO ?aR (fun _ _ h => h) (fun _ h => h.elim) ?aF ?aB ?aS ?aL ?_; (case aR => exact C7.out); (case aB => exact HB.out); (case aF => exact (fun _ _ => trivial)); (case aO => exact HO.out); (case aS => exact HB.out.size); (case aL => have := HBL.out; simp only [List.length_cons, List.length_nil]; omega); intro v8 w8 ho hb hg hat; have n0_ := Aside0.mk hb; have O8 := Aside0.mk ho; replace HK2 := Aside0.mk ((hg.block _ (Array.getElem?_eq_some_iff.1 HK2.out).1 (fun e => by have := HVB.out _ e.symm; have := HZ.out; omega)).trans HK2.out); replace HK4 := Aside0.mk ((hg.block _ (Array.getElem?_eq_some_iff.1 HK4.out).1 (fun e => by have := HVB.out _ e.symm; have := HZ.out; omega)).trans HK4.out); obtain ⟨A8, c8, e8⟩ := Kd.R_slice ho; subst e8; clear HB; have HB := n0_; clear n0_; clear ho hb hg hat))
   have hput := octet_Put.calls A8 c8 (b ++ [2, 1]) 6 m (b ++ [2, 1] ++ MBe.be m 6) _ (Kd.R_reads' O8.out).2.2 (Kd.R_reads' O8.out).2.1 (if_pos (by have := HBL.out; rw [List.length_append]; simp only [List.length_cons, List.length_nil]; omega))
   rw [show (b ++ [2, 1] : List Int).length = b.length + 2 by simp] at hput
   refine hput.mono ?_
   clear hput
   rintro e w9 ⟨v9, rfl, ho9, hb⟩
   replace HK2 := Aside0.mk (MStr.block_below HK2.out hb); replace HK4 := Aside0.mk (MStr.block_below HK4.out hb)
   replace HB := Aside0.mk (below_step HB.out hb)
   obtain ⟨A9, c9, rfl⟩ := Kd.R_slice ho9
   have hcv := Kd.C_string (src := 49) (dst := 9) (e := 5) (c := c9) Try.underlying49 Try.underlying5 Try.underlying9 (Kd.R_reads' ho9).2.2
   clear ho9 hb
   obtain ⟨L, hL⟩ : ∃ L, b ++ [2, 1] ++ MBe.be m 6 = L := ⟨_, rfl⟩
   rw [hL] at hcv ⊢
   have HL := Aside0.mk hL
   clear hL
   obtain ⟨x0, x1, x2, x3, x4⟩ := MBlk.c5 HK2.out
   obtain ⟨f0, f1, f2, f3, f4⟩ := MBlk.f5 HK2.out
   obtain ⟨y0, y1, y2, y3, y4⟩ := MBlk.c5 HK4.out
   obtain ⟨g0, g1, g2, g3, g4⟩ := MBlk.f5 HK4.out
   go_wp2_with fail
   refine bodyPost_ret (results_ct rfl _ _ _ 32 #[.bool true, .int .i64 136, .int .i64 0, .int .i64 rest, .string (strOfNums L)] (0, 0) _ rfl (MStr.put5 ((Below.heap_setCell _ ⟨w.heap.size + 1, 4, none⟩ _ _ (by simp)).trans HK2.out) _ _ _ _ _) Try.underlying32 rfl (by kernel_rfl)) rfl ?_
   exact ⟨by rw [← HL.out]; rfl, MStr.put5_below (below_set HB.out (by omega)) (Nat.le_refl _) _ _ _ _ _⟩
  | false =>
   have hq := HF3.out
   rw [if_neg (by decide)] at hq
   obtain rfl := Option.some.inj hq
   clear hq HF3
   obtain ⟨A9, c9, rfl⟩ := Kd.R_slice HO.out
   have hcv := Kd.C_string (src := 49) (dst := 9) (e := 5) (c := c9) Try.underlying49 Try.underlying5 Try.underlying9 (Kd.R_reads' HO.out).2.2
   obtain ⟨x0, x1, x2, x3, x4⟩ := MBlk.c5 HK2.out
   obtain ⟨f0, f1, f2, f3, f4⟩ := MBlk.f5 HK2.out
   obtain ⟨y0, y1, y2, y3, y4⟩ := MBlk.c5 HK4.out
   obtain ⟨g0, g1, g2, g3, g4⟩ := MBlk.f5 HK4.out
   go_wp2_with fail
   refine bodyPost_ret (results_ct rfl _ _ _ 32 #[.bool true, .int .i64 136, .int .i64 0, .int .i64 rest, .string (strOfNums b)] (0, 0) _ rfl (MStr.put5 ((Below.heap_setCell _ ⟨w.heap.size + 1, 4, none⟩ _ _ (by simp)).trans HK2.out) _ _ _ _ _) Try.underlying32 rfl (by kernel_rfl)) rfl ?_
   exact ⟨rfl, MStr.put5_below (below_set HB.out (by omega)) (Nat.le_refl _) _ _ _ _ _⟩

/-! ### nd_Ask: function 9 (by hand) -/
def nd_Ask.f (k : Nat) (a0_0 : Bool) (a0_1 : Int) (a0_2 : Int) (a0_3 : Bool) (a0_4 : Int) : Option (Bool × Int × Int × Int × ByteArray × Int) := nd_laid.f k 135 0 1 a0_0 a0_1 a0_2 a0_3 a0_4
theorem nd_Ask.mono : ∀ a0_0 a0_1 a0_2 a0_3 a0_4 k, LeO (nd_Ask.f k a0_0 a0_1 a0_2 a0_3 a0_4) (nd_Ask.f (k + 1) a0_0 a0_1 a0_2 a0_3 a0_4) := by
 intro a0_0 a0_1 a0_2 a0_3 a0_4 k
 unfold nd_Ask.f
 exact nd_laid.mono k _ _ _ _ _ _ _ _
set_option maxHeartbeats 1000000 in
set_option maxRecDepth 100000 in
theorem nd_Ask.calls (k : Nat) (a0_0 : Bool) (a0_1 : Int) (a0_2 : Int) (a0_3 : Bool) (a0_4 : Int) (r1 : Bool) (r2 : Int) (r3 : Int) (r4 : Int) (r5 : ByteArray) (r6 : Int) (w : World) (h : nd_Ask.f k a0_0 a0_1 a0_2 a0_3 a0_4 = some (r1, r2, r3, r4, r5, r6)) :
  Calls Try.prog 9 #[.agg #[.bool a0_0, .int .u64 a0_1, .int .u64 a0_2, .bool a0_3, .int .u64 a0_4]] w fun e w' => e = .returned (.tuple #[.agg #[.bool r1, .int .i64 r2, .int .i64 r3, .int .i64 r4, .string r5], .int .i64 r6]) ∧ Below w.heap.size w w' := by
 have HF := Aside0.mk h
 clear h
 unfold nd_Ask.f at HF
 have hu1 := Try.underlying32
 have hu2 := Try.underlying24
 have hu3 := Try.underlying27
 have hu4 := Try.underlying55
 go_enter Try.func9, Try.ntmps9
 go_wp2_with fail
 refine (nd_laid.ask k a0_0 a0_1 a0_2 a0_3 a0_4 (r1, r2, r3, r4, r5, r6) _ HF.out).mono ?_
 rintro e w2 ⟨rfl, hb⟩
 unfold nd_laid.v
 have HK := Aside0.mk (MStr.block_below (MStr.alloc2_new w _ _) hb)
 have HB := Aside0.mk (show Below w.heap.size w w2 from below_step (by go_grown) hb)
 clear hb
 obtain ⟨x0, x1, x2, x3, x4⟩ := MBlk.c5 HK.out
 obtain ⟨f0, f1, f2, f3, f4⟩ := MBlk.f5 HK.out
 go_wp2_with fail
 refine bodyPost_ret (results_ct rfl _ _ _ 32 #[.bool r1, .int .i64 r2, .int .i64 r3, .int .i64 r4, .string r5] (0, 0) _ rfl (MStr.put5 HK.out _ _ _ _ _) Try.underlying32 rfl (by kernel_rfl)) rfl ?_
 exact ⟨rfl, MStr.put5_below HB.out (by omega) _ _ _ _ _⟩

/-! ### nd_Tell: function 11 (by hand) -/
def nd_Tell.f (k : Nat) (a0_0 : Bool) (a0_1 : Int) (a0_2 : Int) (a0_3 : Bool) (a0_4 : Bool) (a0_5 : Bool) (a0_6 : Bool) (a0_7 : Int) : Option (Bool × Int × Int × Int × ByteArray × Int) := nd_laid.f k 136 (nd_laid.rest a0_3 a0_4 a0_5) 2 a0_0 a0_1 a0_2 a0_6 a0_7
theorem nd_Tell.mono : ∀ a0_0 a0_1 a0_2 a0_3 a0_4 a0_5 a0_6 a0_7 k, LeO (nd_Tell.f k a0_0 a0_1 a0_2 a0_3 a0_4 a0_5 a0_6 a0_7) (nd_Tell.f (k + 1) a0_0 a0_1 a0_2 a0_3 a0_4 a0_5 a0_6 a0_7) := by
 intro a0_0 a0_1 a0_2 a0_3 a0_4 a0_5 a0_6 a0_7 k
 unfold nd_Tell.f
 exact nd_laid.mono k _ _ _ _ _ _ _ _
set_option maxHeartbeats 1000000 in
set_option maxRecDepth 100000 in
theorem nd_Tell.calls (k : Nat) (a0_0 : Bool) (a0_1 : Int) (a0_2 : Int) (a0_3 : Bool) (a0_4 : Bool) (a0_5 : Bool) (a0_6 : Bool) (a0_7 : Int) (r1 : Bool) (r2 : Int) (r3 : Int) (r4 : Int) (r5 : ByteArray) (r6 : Int) (w : World) (h : nd_Tell.f k a0_0 a0_1 a0_2 a0_3 a0_4 a0_5 a0_6 a0_7 = some (r1, r2, r3, r4, r5, r6)) :
  Calls Try.prog 11 #[.agg #[.bool a0_0, .int .u64 a0_1, .int .u64 a0_2, .bool a0_3, .bool a0_4, .bool a0_5, .bool a0_6, .int .u64 a0_7]] w fun e w' => e = .returned (.tuple #[.agg #[.bool r1, .int .i64 r2, .int .i64 r3, .int .i64 r4, .string r5], .int .i64 r6]) ∧ Below w.heap.size w w' := by
 have HF := Aside0.mk h
 clear h
 unfold nd_Tell.f at HF
 have hu1 := Try.underlying32
 have hu2 := Try.underlying24
 have hu3 := Try.underlying29
 have hu4 := Try.underlying59
 go_enter Try.func11, Try.ntmps11
 go_wp2_with fail
 refine (nd_laid.tell k a0_0 a0_1 a0_2 a0_3 a0_4 a0_5 a0_6 a0_7 (r1, r2, r3, r4, r5, r6) _ HF.out).mono ?_
 rintro e w2 ⟨rfl, hb⟩
 unfold nd_laid.v
 have HK := Aside0.mk (MStr.block_below (MStr.alloc2_new w _ _) hb)
 have HB := Aside0.mk (show Below w.heap.size w w2 from below_step (by go_grown) hb)
 clear hb
 obtain ⟨x0, x1, x2, x3, x4⟩ := MBlk.c5 HK.out
 obtain ⟨f0, f1, f2, f3, f4⟩ := MBlk.f5 HK.out
 go_wp2_with fail
 refine bodyPost_ret (results_ct rfl _ _ _ 32 #[.bool r1, .int .i64 r2, .int .i64 r3, .int .i64 r4, .string r5] (0, 0) _ rfl (MStr.put5 HK.out _ _ _ _ _) Try.underlying32 rfl (by kernel_rfl)) rfl ?_
 exact ⟨rfl, MStr.put5_below HB.out (by omega) _ _ _ _ _⟩

/-! ### nd_Options: function 13 -/
def nd_Options.l0 : Nat → ByteArray → List (S43) → Option ((List (S43)) × Int)
 | 0, _, _ => none
 | k + 1, x0, x4 => if (x0.size : Int) > 0 then (if (x0.size : Int) < 2 then (some (([] : List (S43)), 81)) else (if 1 < (x0.size : Int) then (if (wrap64 (8 * (wrap64 (bt x0 1)))) = 0 then (some (([] : List (S43)), 80)) else (if (wrap64 (8 * (wrap64 (bt x0 1)))) > (x0.size : Int) then (some (([] : List (S43)), 81)) else (if 0 < (x0.size : Int) then (if 2 ≤ (wrap64 (8 * (wrap64 (bt x0 1)))) then (if (wrap64 (8 * (wrap64 (bt x0 1)))) ≤ (x0.size : Int) then (if x4.length < 5864062014805 then (if 0 ≤ (wrap64 (8 * (wrap64 (bt x0 1)))) then (nd_Options.l0 k (x0.extract ((wrap64 (8 * (wrap64 (bt x0 1)))) : Int).toNat x0.size) (x4 ++ [(⟨wrap64 (bt x0 0), x0.extract 2 ((wrap64 (8 * (wrap64 (bt x0 1)))) : Int).toNat⟩ : S43)])) else (none)) else (none)) else (none)) else (none)) else (none)))) else (none))) else (some (x4, 0))
def nd_Options.f (k : Nat) (a0 : ByteArray) : Option ((List (S43)) × Int) := nd_Options.l0 k a0 ([] : List (S43))
theorem nd_Options.mono_l : ∀ k, (∀ y0 y1, LeO (nd_Options.l0 k y0 y1) (nd_Options.l0 (k + 1) y0 y1))
 | 0 => fun _ _ r h => by simp [nd_Options.l0] at h
 | k + 1 => by
  have ih0 := nd_Options.mono_l k
  ·
   intro y0 y1
   unfold nd_Options.l0
   repeat' first
   | (with_reducible exact ih0 _ _)
   | (with_reducible exact LeO.refl _)
   | (with_reducible exact LeO.none _)
   | (with_reducible refine LeO.ite ?_ ?_)
   | (with_reducible refine LeO.bind ?_ (fun _ => ?_))
   | exact ih0 _ _
   | exact LeO.none _
   | refine LeO.ite ?_ ?_
   | refine LeO.bind ?_ (fun _ => ?_)
theorem nd_Options.mono : ∀ a0 k, LeO (nd_Options.f k a0) (nd_Options.f (k + 1) a0) := by
 intro a0 k
 have ih0 := nd_Options.mono_l k
 unfold nd_Options.f
 repeat' first
   | (with_reducible exact ih0 _ _)
   | (with_reducible exact LeO.refl _)
   | (with_reducible exact LeO.none _)
   | (with_reducible refine LeO.ite ?_ ?_)
   | (with_reducible refine LeO.bind ?_ (fun _ => ?_))
   | exact ih0 _ _
   | exact LeO.none _
   | refine LeO.ite ?_ ?_
   | refine LeO.bind ?_ (fun _ => ?_)
def nd_Options.T10 : Bool × List (List Nat × List Nat) := (true, [([], []), ([], []), ([1], [1]), ([2], [2]), ([], []), ([], []), ([4, 5], [4, 5]), ([3, 6], [3, 6]), ([7], [7]), ([0, 8], [0, 8]), ([9, 9, 0, 1, 2, 3, 4, 5, 6, 7, 8, 9], [0, 9])])
def nd_Options.B10 : List Nat := [0, 0, 2, 6, 0, 0, 48, 126, 254, 511, 1023]
theorem nd_Options.tab10 : rtab .any (opsOf Try.f13 10) = nd_Options.T10 := by kernel_rfl
theorem nd_Options.bits10 : waitsOk nd_Options.T10.2 nd_Options.B10 = true := by kernel_rfl
set_option maxHeartbeats 8000000 in
set_option maxRecDepth 100000 in
theorem nd_Options.calls (k : Nat) (a0 : ByteArray) (r1 : List (S43)) (r2 : Int) (w : World) (h : nd_Options.f k a0 = some (r1, r2)) :
  Calls Try.prog 13 #[.string a0] w fun e w' => ∃ v0_ : Value, e = .returned (.tuple #[v0_, .int .i64 r2]) ∧ Kd.R k43 43 w' w.heap.size (fun _ => True) v0_ r1 ∧ Below w.heap.size w w' := by
 have hu43 := Try.underlying43
 have HB := Aside0.mk (Below.refl w.heap.size w)
 have H : (nd_Options.l0 k a0 ([] : List (S43))) = some (r1, r2) := h
 clear h
 have H' := Aside0.mk H
 clear H
 go_enter Try.func13, Try.ntmps13
 go_wp2
 go_loopg [0, 4] k (fun kq v0 v4 w' => ∃ (x0_1 : ByteArray) (x4_1 : List (S43)), v0 = .string x0_1 ∧ Aside0 (nd_Options.l0 kq x0_1 x4_1 = some (r1, r2)) ∧ Aside0 (kq ≤ k) ∧ Aside0 (Kd.R k43 43 w' w.heap.size (fun _ => True) v4 x4_1) ∧ Aside0 (Below w.heap.size w w'))
 case atStart => exact ⟨(a0), (([] : List (S43))), (by first | rfl | (simp; done) | (simp [*]; done)), H', ⟨Nat.le_refl _⟩, ⟨by first | exact Kd.R_nil _ _ _ _ _ | exact Kd.N_nil _ _ _ _ _ | exact Kd.V_nil _ _ _ _ _ | exact Kd.Q_nil _ _ _ _ _ | exact Kd.S_nil _ _ _ _ _⟩, ⟨by repeat (first | (with_reducible first | exact HB.out | apply below_alloc | apply pw_below_drewN | apply below_drew1) | exact HB.out)⟩⟩
 case round =>
  clear H'
  try clear c1
  obtain ⟨x0_1, x4_1, rfl, HA, HK1, HO_4, HB⟩ := hrel
  cases gk with
  | zero => exact absurd HA.out (by simp [nd_Options.l0])
  | succ k1 =>
   have H := HA.out
   clear HA
   simp only [nd_Options.l0] at H
   by_cases c2 : (x0_1.size : Int) > 0
   ·
    rw [if_pos c2] at H
    have c2b0 : decide (0 < (x0_1.size : Int)) = true := decide_eq_true c2
    have c2b1 : decide (0 < x0_1.size) = true := decide_eq_true (by omega)
    clear c2
    by_cases c3 : (x0_1.size : Int) < 2
    ·
     rw [if_pos c3] at H
     have c3b0 : decide ((x0_1.size : Int) < 2) = true := decide_eq_true c3
     have c3b1 : decide (x0_1.size < 2) = true := decide_eq_true (by omega)
     clear c3
     simp only [Option.some.injEq, Prod.mk.injEq] at H
     obtain ⟨rfl, rfl⟩ := H
     go_wp2
     go_ret2
     exact ⟨_, by first | rfl | (simp [errW_none, errW_some] <;> rfl) | (simp [*, errW_none, errW_some] <;> rfl), by first | exact Kd.R_nil _ _ _ _ _ | exact Kd.N_nil _ _ _ _ _ | exact Kd.V_nil _ _ _ _ _ | exact Kd.Q_nil _ _ _ _ _ | exact Kd.S_nil _ _ _ _ _, by repeat (first | (with_reducible first | exact HB.out | apply below_alloc | apply pw_below_drewN | apply below_drew1) | exact HB.out)⟩
    ·
     rw [if_neg c3] at H
     have c3b0 : decide ((x0_1.size : Int) < 2) = false := decide_eq_false c3
     have c3b1 : decide (x0_1.size < 2) = false := decide_eq_false (by omega)
     clear c3
     by_cases c4 : 1 < (x0_1.size : Int)
     ·
      rw [if_pos c4] at H
      have c4b0 : decide (1 < (x0_1.size : Int)) = true := decide_eq_true c4
      have c4b1 : decide (1 < x0_1.size) = true := decide_eq_true (by omega)
      clear c4
      by_cases c6 : (wrap64 (8 * (wrap64 (bt x0_1 1)))) = 0
      ·
       rw [if_pos c6] at H
       have c6b0 : ((wrap64 (8 * (wrap64 (bt x0_1 1)))) == 0) = true := beq_iff_eq.mpr c6
       have c6b1 : ((wrap64 (8 * (wrap64 (bt x0_1 1)))) != 0) = false := bne_eq_false_iff_eq.mpr c6
       clear c6
       simp only [Option.some.injEq, Prod.mk.injEq] at H
       obtain ⟨rfl, rfl⟩ := H
       have p5 : 0 ≤ (1 : Int) := (by omega)
       have q5 : 1 < x0_1.size := (by have : (1 : Int) < (x0_1.size : Int) := of_decide_eq_true (by first | (with_reducible assumption) | assumption); omega)
       have hx5 : ∀ h : 1 < x0_1.size, ((x0_1[1]'h).toNat : Int) = bt x0_1 1 := bt_at x0_1 1
       clear p5
       have qi5 : (1 < (x0_1.size : Int)) = True := eq_true (of_decide_eq_true (by first | (with_reducible assumption) | assumption))
       replace q5 := eq_true q5
       go_wp2
       go_ret2
       exact ⟨_, by first | rfl | (simp [errW_none, errW_some] <;> rfl) | (simp [*, errW_none, errW_some] <;> rfl), by first | exact Kd.R_nil _ _ _ _ _ | exact Kd.N_nil _ _ _ _ _ | exact Kd.V_nil _ _ _ _ _ | exact Kd.Q_nil _ _ _ _ _ | exact Kd.S_nil _ _ _ _ _, by repeat (first | (with_reducible first | exact HB.out | apply below_alloc | apply pw_below_drewN | apply below_drew1) | exact HB.out)⟩
      ·
       rw [if_neg c6] at H
       have c6b0 : ((wrap64 (8 * (wrap64 (bt x0_1 1)))) == 0) = false := beq_eq_false_iff_ne.mpr c6
       have c6b1 : ((wrap64 (8 * (wrap64 (bt x0_1 1)))) != 0) = true := bne_iff_ne.mpr c6
       by_cases c7 : (wrap64 (8 * (wrap64 (bt x0_1 1)))) > (x0_1.size : Int)
       ·
        rw [if_pos c7] at H
        have c7b0 : decide ((x0_1.size : Int) < (wrap64 (8 * (wrap64 (bt x0_1 1))))) = true := decide_eq_true c7
        clear c7
        simp only [Option.some.injEq, Prod.mk.injEq] at H
        obtain ⟨rfl, rfl⟩ := H
        have p5 : 0 ≤ (1 : Int) := (by omega)
        have q5 : 1 < x0_1.size := (by have : (1 : Int) < (x0_1.size : Int) := of_decide_eq_true (by first | (with_reducible assumption) | assumption); omega)
        have hx5 : ∀ h : 1 < x0_1.size, ((x0_1[1]'h).toNat : Int) = bt x0_1 1 := bt_at x0_1 1
        clear p5
        have qi5 : (1 < (x0_1.size : Int)) = True := eq_true (of_decide_eq_true (by first | (with_reducible assumption) | assumption))
        replace q5 := eq_true q5
        go_wp2
        go_ret2
        exact ⟨_, by first | rfl | (simp [errW_none, errW_some] <;> rfl) | (simp [*, errW_none, errW_some] <;> rfl), by first | exact Kd.R_nil _ _ _ _ _ | exact Kd.N_nil _ _ _ _ _ | exact Kd.V_nil _ _ _ _ _ | exact Kd.Q_nil _ _ _ _ _ | exact Kd.S_nil _ _ _ _ _, by repeat (first | (with_reducible first | exact HB.out | apply below_alloc | apply pw_below_drewN | apply below_drew1) | exact HB.out)⟩
       ·
        rw [if_neg c7] at H
        have c7b0 : decide ((x0_1.size : Int) < (wrap64 (8 * (wrap64 (bt x0_1 1))))) = false := decide_eq_false c7
        clear c7
        by_cases c8 : 0 < (x0_1.size : Int)
        ·
         rw [if_pos c8] at H
         have c8b0 : decide (0 < (x0_1.size : Int)) = true := decide_eq_true c8
         have c8b1 : decide (0 < x0_1.size) = true := decide_eq_true (by omega)
         clear c8
         by_cases c10 : 2 ≤ (wrap64 (8 * (wrap64 (bt x0_1 1))))
         ·
          rw [if_pos c10] at H
          have c10b0 := eq_true c10
          have c10b1 : decide (2 ≤ (wrap64 (8 * (wrap64 (bt x0_1 1))))) = true := decide_eq_true c10
          clear c10
          by_cases c11 : (wrap64 (8 * (wrap64 (bt x0_1 1)))) ≤ (x0_1.size : Int)
          ·
           rw [if_pos c11] at H
           have c11b0 := eq_true c11
           have c11b1 : decide ((wrap64 (8 * (wrap64 (bt x0_1 1)))) ≤ (x0_1.size : Int)) = true := decide_eq_true c11
           clear c11
           by_cases c12 : x4_1.length < 5864062014805
           ·
            rw [if_pos c12] at H
            have LMc12 := Aside0.mk c12
            clear c12
            obtain ⟨y119, hy119⟩ : ∃ y_ : List (S43), y_ = (x4_1 ++ [(⟨wrap64 (bt x0_1 0), x0_1.extract 2 ((wrap64 (8 * (wrap64 (bt x0_1 1)))) : Int).toNat⟩ : S43)]) := ⟨_, rfl⟩
            replace H : (if 0 ≤ (wrap64 (8 * (wrap64 (bt x0_1 1)))) then (nd_Options.l0 k1 (x0_1.extract ((wrap64 (8 * (wrap64 (bt x0_1 1)))) : Int).toNat x0_1.size) y119) else (none)) = some (r1, r2) := by first | (rw [hy119]; with_reducible exact H) | (have H2_ := (Option.bind_some _ _).symm.trans H; rw [hy119]; with_reducible exact H2_) | (have H2_ := (Option.bind_some _ _).symm.trans H; with_reducible exact H2_) | with_reducible exact H | (rw [hy119]; exact H) | exact H
            have Ny119 := Aside0.mk hy119
            clear hy119
            obtain ⟨ji13, hji13⟩ : ∃ j_ : Int, (wrap64 (8 * (wrap64 (bt x0_1 1)))) = j_ := ⟨_, rfl⟩
            replace H : (if 0 ≤ (ji13) then (nd_Options.l0 k1 (x0_1.extract ((ji13) : Int).toNat x0_1.size) y119) else (none)) = some (r1, r2) := by first | (rw [hji13] at H; exact H) | (simp only [hji13] at H ⊢; exact H)
            (try rw [hji13] at c6b0)
            (try rw [hji13] at c6b1)
            (try rw [hji13] at c7b0)
            (try rw [hji13] at c10b0)
            (try rw [hji13] at c10b1)
            (try rw [hji13] at c11b0)
            (try rw [hji13] at c11b1)
            (try rw [hji13] at Ny119)
            have hji13w : (IntKind.i64.wrap (8 * (wrap64 (bt x0_1 1)))) = ji13 := (i64_w _).trans hji13
            by_cases c14 : 0 ≤ (ji13)
            ·
             rw [if_pos c14] at H
             have c14b0 := eq_true c14
             have c14b1 : decide (0 ≤ (ji13)) = true := decide_eq_true c14
             clear c14
             have c15b0 := eq_true (of_decide_eq_true (by first | (with_reducible assumption) | assumption) : (ji13) ≤ (x0_1.size : Int))
             have H' := Aside0.mk H
             clear H
             have p5 : 0 ≤ (1 : Int) := (by omega)
             have q5 : 1 < x0_1.size := (by have : (1 : Int) < (x0_1.size : Int) := of_decide_eq_true (by first | (with_reducible assumption) | assumption); omega)
             have hx5 : ∀ h : 1 < x0_1.size, ((x0_1[1]'h).toNat : Int) = bt x0_1 1 := bt_at x0_1 1
             clear p5
             have qi5 : (1 < (x0_1.size : Int)) = True := eq_true (of_decide_eq_true (by first | (with_reducible assumption) | assumption))
             replace q5 := eq_true q5
             try go_wp2
             have n0_ := Aside0.mk (Kd.R_drew HO_4.out)
             have n1_ := Aside0.mk (below_drew1 HB.out)
             clear HO_4 HB
             have HO_4 := n0_
             have HB := n1_
             clear n0_ n1_
             have p9 : 0 ≤ (0 : Int) := (by omega)
             have q9 : 0 < x0_1.size := (by have : (0 : Int) < (x0_1.size : Int) := of_decide_eq_true (by first | (with_reducible assumption) | assumption); omega)
             have hx9 : ∀ h : 0 < x0_1.size, ((x0_1[0]'h).toNat : Int) = bt x0_1 0 := bt_at x0_1 0
             clear p9
             have qi9 : (0 < (x0_1.size : Int)) = True := eq_true (of_decide_eq_true (by first | (with_reducible assumption) | assumption))
             replace q9 := eq_true q9
             refine start_ (n := 11) (S := fun w' => True) (ds := []) #[false, false, false, false, false, false, false, false, false, false, false] (by kernel_rfl) rfl rfl trivial (fun hHeld => ?_); refine with_tabW nd_Options.tab10 nd_Options.bits10 (fun HT_ HW_ => ?_)
             generalize wr.drew = w16 at HO_4 HB hHeld ⊢
             refine pure_ (i := 0) (N := some 24) (v := ?_) (a' := ?_) #[true, false, false, false, false, false, false, false, false, false, false] rfl rfl (any_of HT_.out (by kernel_rfl)) (fun _ _ _ h => h) (Or.inl ⟨by rfl, ?_⟩) ?_ ?_
             rotate_left
             ·
              intro w'
              go_simp
              with_reducible rfl
             rotate_left
             ·
              simp only [Act.put, List.setIfInBounds_toArray, List.set_cons_zero, List.set_cons_succ, i64_w, i32_w]
              rfl
             refine pure_ (i := 1) (N := some 25) (v := ?_) (a' := ?_) #[true, true, false, false, false, false, false, false, false, false, false] rfl rfl (any_of HT_.out (by kernel_rfl)) (fun _ _ _ h => h) (Or.inl ⟨by rfl, ?_⟩) ?_ ?_
             rotate_left
             ·
              intro w'
              go_simp
              with_reducible rfl
             rotate_left
             ·
              simp only [Act.put, List.setIfInBounds_toArray, List.set_cons_zero, List.set_cons_succ, i64_w, i32_w]
              rfl
             refine pure_ (i := 4) (N := some 28) (v := ?_) (a' := ?_) #[true, true, false, false, true, false, false, false, false, false, false] rfl rfl (any_of HT_.out (by kernel_rfl)) (fun _ _ _ h => h) (Or.inl ⟨by rfl, ?_⟩) ?_ ?_
             rotate_left
             ·
              intro w'
              go_simp
              with_reducible rfl
             rotate_left
             ·
              simp only [Act.put, List.setIfInBounds_toArray, List.set_cons_zero, List.set_cons_succ, i64_w, i32_w]
              rfl
             refine pure_ (i := 5) (N := some 29) (v := ?_) (a' := ?_) #[true, true, false, false, true, true, false, false, false, false, false] rfl rfl (any_of HT_.out (by kernel_rfl)) (fun _ _ _ h => h) (Or.inl ⟨by rfl, ?_⟩) ?_ ?_
             rotate_left
             ·
              intro w'
              go_simp
              with_reducible rfl
             rotate_left
             ·
              simp only [Act.put, List.setIfInBounds_toArray, List.set_cons_zero, List.set_cons_succ, i64_w, i32_w]
              rfl
             refine pure_ (i := 6) (N := some 30) (v := ?_) (a' := ?_) #[true, true, false, false, true, true, true, false, false, false, false] rfl rfl (any_of HT_.out (by kernel_rfl)) (fun _ _ _ h => h) (Or.inl ⟨by rfl, ?_⟩) ?_ ?_
             rotate_left
             ·
              intro w'
              go_simp
              with_reducible rfl
             rotate_left
             ·
              simp only [Act.put, List.setIfInBounds_toArray, List.set_cons_zero, List.set_cons_succ, i64_w, i32_w]
              rfl
             refine take_ (i := 2) (N := some 26) (v := ?_) (a' := ?_) #[true, true, true, false, true, true, true, false, false, false, false] rfl rfl (take_ofW HT_.out HW_.out (by kernel_rfl)) (fun _ _ _ h => h) (Or.inl ⟨by rfl, ?_⟩) hHeld ?_ ?_
             rotate_left
             ·
              intro w' _
              go_simp
              with_reducible rfl
             rotate_left
             ·
              simp only [Act.put, List.setIfInBounds_toArray, List.set_cons_zero, List.set_cons_succ, i64_w, i32_w]
              rfl
             refine pure_ (i := 3) (N := some 27) (v := ?_) (a' := ?_) #[true, true, true, true, true, true, true, false, false, false, false] rfl rfl (any_of HT_.out (by kernel_rfl)) (fun _ _ _ h => h) (Or.inl ⟨by rfl, ?_⟩) ?_ ?_
             rotate_left
             ·
              intro w'
              go_simp
              with_reducible rfl
             rotate_left
             ·
              simp only [Act.put, List.setIfInBounds_toArray, List.set_cons_zero, List.set_cons_succ, i64_w, i32_w]
              rfl
             refine pure_ (i := 7) (N := some 31) (v := ?_) (a' := ?_) #[true, true, true, true, true, true, true, true, false, false, false] rfl rfl (any_of HT_.out (by kernel_rfl)) (fun _ _ _ h => h) (Or.inl ⟨by rfl, ?_⟩) ?_ ?_
             rotate_left
             ·
              intro w'
              go_simp
              with_reducible rfl
             rotate_left
             ·
              simp only [Act.put, List.setIfInBounds_toArray, List.set_cons_zero, List.set_cons_succ, i64_w, i32_w]
              rfl
             refine one_ (i := 8) (N := some 32) #[true, true, true, true, true, true, true, true, true, false, false] rfl rfl (one_of HT_.out (by kernel_rfl)) (by decide) (fun K hK => ?_)
             refine value_ (w1 := ?_) (v := ?_) (by rfl) rfl ?_ ?_
             rotate_left 2
             ·
              go_simp
              constructor
              ·
               rfl
              ·
               rfl
             refine hK.out _ _ trivial (fun hHeld => ?_)
             clear hK K
             refine norm_ (a' := ?_) ?_ ?_
             rotate_left
             ·
              show Act.put _ (some 32) _ = _
              simp only [Act.put, List.setIfInBounds_toArray, List.set_cons_zero, List.set_cons_succ, i64_w, i32_w]
              rfl
             refine one_ (i := 9) (N := some 33) #[true, true, true, true, true, true, true, true, true, true, false] rfl rfl (one_of HT_.out (by kernel_rfl)) (by decide) (fun K hK => ?_)
             refine Kd.R_append_step k43 (w0 := w) w.heap.size (by rfl) (.tmp 24) (.tmp 32) 38 43 (.agg #[(.int .i64 0), (.string ⟨#[]⟩)]) 24 rfl Try.underlying38 info43 rfl (by decide) (by omega) u4 x4_1 (⟨wrap64 (bt x0_1 0), x0_1.extract 2 ((ji13) : Int).toNat⟩ : S43) [.int .i64 (wrap64 (bt x0_1 0)), .string (x0_1.extract 2 ((ji13) : Int).toNat)] (fun _ => True) (fun _ => False) rfl rfl ?aP (fun _ hk => hk.elim) ?aF ?aO ?aB ?aS ?aL ?_
             (case aP => exact k43_mkM _ _ _ (⟨wrap64 (bt x0_1 0), x0_1.extract 2 ((ji13) : Int).toNat⟩ : S43))
             (case aB => exact (by repeat (first | (with_reducible first | exact HB.out | apply below_alloc | apply pw_below_drewN | apply below_drew1) | exact HB.out)))
             (case aF => exact (fun _ _ => trivial))
             (case aO => exact (by (with_reducible repeat (first | apply Kd.R_alloc | apply Kd.R_drewN | apply Kd.R_drew)); exact HO_4.out))
             (case aS => exact (below_size (by repeat (first | (with_reducible first | exact HB.out | apply below_alloc | apply pw_below_drewN | apply below_drew1) | exact HB.out))))
             (case aL => have := LMc12.out; omega)
             intro v120 w17 ho hb hg hat
             rw [← Ny119.out] at ho
             have n0_ := Aside0.mk (hb)
             have n1_ := Aside0.mk (ho)
             clear HB HO_4
             have HB := n0_
             have HO121 := n1_
             clear n0_ n1_
             clear ho hb hg hat
             refine hK.out _ _ trivial (fun hHeld => ?_)
             clear hK K
             refine norm_ (a' := ?_) ?_ ?_
             rotate_left
             ·
              show Act.put _ (some 33) _ = _
              simp only [Act.put, List.setIfInBounds_toArray, List.set_cons_zero, List.set_cons_succ, i64_w, i32_w]
              rfl
             refine pure_ (i := 10) (N := some 4) (v := ?_) (a' := ?_) #[true, true, true, true, true, true, true, true, true, true, true] rfl rfl (any_of HT_.out (by kernel_rfl)) (fun _ _ _ h => h) (Or.inl ⟨by rfl, ?_⟩) ?_ ?_
             rotate_left
             ·
              intro w'
              go_simp
              with_reducible rfl
             rotate_left
             ·
              simp only [Act.put, List.setIfInBounds_toArray, List.set_cons_zero, List.set_cons_succ, i64_w, i32_w]
              rfl
             refine done_ (done_of HT_.out (by kernel_rfl)) ?_
             try go_wp2
             go_roundg k1
             case measure => have := HK1.out; omega
             case rel => exact ⟨(x0_1.extract ((ji13) : Int).toNat x0_1.size), (y119), (by first | rfl | (simp; done) | (simp only [← hji13] <;> (first | rfl | simp)) | (simp [*]; done)), H', ⟨by have := HK1.out; omega⟩, ⟨by (with_reducible repeat (first | apply Kd.R_alloc | apply Kd.R_drewN | apply Kd.R_drew)); exact HO121.out⟩, ⟨by repeat (first | (with_reducible first | exact HB.out | apply below_alloc | apply pw_below_drewN | apply below_drew1) | exact HB.out)⟩⟩
            ·
             rw [if_neg c14] at H
             exact absurd H (by simp)
           ·
            rw [if_neg c12] at H
            exact absurd H (by simp)
          ·
           rw [if_neg c11] at H
           exact absurd H (by simp)
         ·
          rw [if_neg c10] at H
          exact absurd H (by simp)
        ·
         rw [if_neg c8] at H
         exact absurd H (by simp)
     ·
      rw [if_neg c4] at H
      exact absurd H (by simp)
   ·
    rw [if_neg c2] at H
    have c2b0 : decide (0 < (x0_1.size : Int)) = false := decide_eq_false c2
    have c2b1 : decide (0 < x0_1.size) = false := decide_eq_false (by omega)
    clear c2
    simp only [Option.some.injEq, Prod.mk.injEq] at H
    obtain ⟨rfl, rfl⟩ := H
    go_wp2
    go_ret2
    exact ⟨_, by first | rfl | (simp [errW_none, errW_some] <;> rfl) | (simp [*, errW_none, errW_some] <;> rfl), by (with_reducible repeat (first | apply Kd.R_alloc | apply Kd.R_drewN | apply Kd.R_drew)); exact HO_4.out, by repeat (first | (with_reducible first | exact HB.out | apply below_alloc | apply pw_below_drewN | apply below_drew1) | exact HB.out)⟩

end Go.Proofs.Ytkpncagfhiceoaa.PBase
