/- Functions of the program as Lean functions, each with a proof that a call comes to what it says. Conditions: those of each theorem. Laid by a program of this session. -/
import Derived.Test.YtbfchmfanbeocaaPBasex0
import Derived.Test.YtbfchmfanbeocaaPBasex1
namespace Go.Proofs.Ytbfchmfanbeocaa.PBase
open Go.RowKit Go.Proofs.Ytbfchmfanbeocaa Go.Proofs.YtbfchmfanbeocaaW.PrintWords Go.Proofs.YtbfchmfanbeocaaW.PrintLast Go.Proofs.YtbfchmfanbeocaaW.PrintMore
attribute [local go_sem] max2_int min2_int max_two min_two max_three min_three max_four min_four   -- for this text's walks alone
set_option linter.unusedVariables false
set_option linter.unusedSimpArgs false

-- NOT PRINTED: function 22 (crosswayref01_New)

/-! ### octet_Reader_Bytes: function 23 (by hand) -/
set_option maxHeartbeats 1000000 in
set_option maxRecDepth 100000 in
theorem octet_Reader_Bytes.bad (g b : Nat) (l : List Int) (s : Bool) (n : Int) (w : World) (h : MReader.Rdr 52 w g b l s) (hbad : s = true ∨ n < 0 ∨ (l.length : Int) < n) :
  Calls Try.prog 23 #[.pointer (some ⟨g, 0, none⟩), .int .i64 n] w fun e w' => e = .returned (.slice none 0 0) ∧ MReader.Rdr 52 w' g b [] true ∧ w.grownBy w' (some g) := by
 obtain ⟨A, c, x0, x1, f0, f1, hl, hC, hN, hA⟩ := h.cells
 have HR := Aside0.mk h
 clear h hl hC hN hA
 cases s with
 | true =>
  clear hbad
  go_enter Try.func23, Try.ntmps23
  go_wp2_with fail
  refine (octet_Reader_ends.calls g b l true _ HR.out).mono ?_
  rintro e w3 ⟨rfl, hr, hgr⟩
  have HR3 := Aside0.mk hr
  have HG3 := Aside0.mk hgr
  clear hr hgr
  go_wp2_with fail
  go_ret
  exact ⟨rfl, HR3.out, HG3.out⟩
 | false =>
  have hbad2 : n < 0 ∨ (l.length : Int) < n := by rcases hbad with h | h; cases h; exact h
  clear hbad
  rcases hbad2 with h1 | h1
  ·
   go_enter Try.func23, Try.ntmps23
   go_wp2_with fail
   refine (octet_Reader_ends.calls g b l false _ HR.out).mono ?_
   rintro e w3 ⟨rfl, hr, hgr⟩
   have HR3 := Aside0.mk hr
   have HG3 := Aside0.mk hgr
   clear hr hgr
   go_wp2_with fail
   go_ret
   exact ⟨rfl, HR3.out, HG3.out⟩
  ·
   have h2 : ¬ n < 0 := by omega
   go_enter Try.func23, Try.ntmps23
   go_wp2_with fail
   refine (octet_Reader_ends.calls g b l false _ HR.out).mono ?_
   rintro e w3 ⟨rfl, hr, hgr⟩
   have HR3 := Aside0.mk hr
   have HG3 := Aside0.mk hgr
   clear hr hgr
   go_wp2_with fail
   go_ret
   exact ⟨rfl, HR3.out, HG3.out⟩
set_option maxHeartbeats 1000000 in
set_option maxRecDepth 100000 in
theorem octet_Reader_Bytes.ok (g b : Nat) (l : List Int) (n : Int) (w : World) (h : MReader.Rdr 52 w g b l false) (h0 : 0 ≤ n) (h1 : n ≤ (l.length : Int)) (hl0 : l.length ≤ 140737488355200) :
  Calls Try.prog 23 #[.pointer (some ⟨g, 0, none⟩), .int .i64 n] w fun e w' => ∃ v, e = .returned v ∧ Kd.R (Kd.int .u8) 5 w' w.heap.size (fun k => k ≠ g ∧ k ≠ b) v (l.take n.toNat) ∧ MReader.Rdr 52 w' g b (l.drop n.toNat) false ∧ w.grownBy w' (some g) := by
 obtain ⟨A, c, x0, x1, f0, f1, hl, hC, hN, hA⟩ := h.cells
 have HR := Aside0.mk h
 have hglt := h.glt
 have hblt := h.lt
 have HC := Aside0.mk hC
 have HL := Aside0.mk hl
 obtain ⟨m, rfl⟩ := Int.eq_ofNat_of_zero_le h0
 have hml : m ≤ l.length := by omega
 have hmc : m ≤ c := by omega
 have h2 : ¬ ((m : Int) < 0) := by omega
 have h3 : ¬ ((l.length : Int) < (m : Int)) := by omega
 clear h hC h0
 have HB := Aside0.mk (Below.refl w.heap.size w)
 by_cases hcm : c = m
 ·
  subst hcm
  go_enter Try.func23, Try.ntmps23
  go_wp2_with (first | ((with_reducible refine gate_dst (N := 26) rfl ?_); refine Kd.R_make (Kd.int .u8) _ 5 rfl (N := 26) rfl 22 _ _ rfl (c : Int) rfl rfl Try.underlying22 (.int .u8 0) 1 info5 rfl (by decide) (by omega) 0 (ok := fun k => k ≠ g ∧ k ≠ b) (okp := fun k => k ≠ g ∧ k ≠ b) rfl (fun _ hk => hk) (by constructor <;> omega) (by omega) (by omega) (Below.refl _ _) (Nat.le_refl _) ?_; intro v1 w1 ho1 hb hg_ hnew_; clear hg_ hnew_; rw [Int.toNat_natCast] at ho1; have HO1 := Aside0.mk ho1; obtain ⟨A1, c1, e1⟩ := Kd.R_slice ho1; rw [List.length_replicate] at e1; subst e1; replace HB := Aside0.mk (below_step HB.out hb); have y0 := pw_cell_below HB.out x0; have z0 := (HB.out.frozen (p := ⟨g, 0, none⟩) hglt).trans f0; clear hb ho1) | ((with_reducible refine gate_builtin (b := .copy) (xs := #[.tmp 27, .tmp 31]) rfl ?_); refine MCopy.R_copy (k := .u8) (w0 := w) (base := w.heap.size) (ok := fun k => k ≠ g ∧ k ≠ b) rfl (.tmp 27) (.tmp 31) 22 rfl Try.underlying22 (by kernel_rfl) (.slice A1 c c1) (List.replicate c 0) l A l.length c rfl rfl HO1.out (Kd.C_below HC.out HB.out) HB.out ?_; intro w2 n2 ho2 hb2; have HO2 := Aside0.mk ho2; clear y0 z0; clear HO1 HB ho2; have HB := Aside0.mk hb2; have y0 := pw_cell_below HB.out x0; have z0 := (HB.out.frozen (p := ⟨g, 0, none⟩) hglt).trans f0; clear hb2))
  go_ret
  obtain ⟨⟨A', c', e0, _⟩, hlt, hne⟩ := HR.out
  have e3 := (HB.out.block g hglt).trans e0
  have e1 := MReader.setCell_heap (w := w2) (j := 0) (u := .slice A 0 0) e3
  have hd : l.drop c = [] := List.drop_eq_nil_of_le (by omega)
  have ht : l.take (List.replicate c (0 : Int)).length ++ (List.replicate c (0 : Int)).drop l.length = l.take c := by
   rw [List.length_replicate, List.drop_eq_nil_of_le (by rw [List.length_replicate]; omega), List.append_nil]
  have ho := HO2.out
  rw [ht] at ho
  have hg2 : w.grownBy w2 (some g) := ⟨HB.out.os, HB.out.tape, HB.out.output, HB.out.size, fun k hk _ => HB.out.block k hk⟩
  rw [hd]
  refine ⟨_, rfl, Kd.R_far ho (fun k hk => hk.1) _, ⟨⟨A, 0, by simpa using e1, Nat.le_refl _, ⟨rfl, Nat.zero_le _, fun h0 => by cases h0⟩, fun _ => rfl, hA⟩, ?_, hne⟩, MReader.grown_trans hg2 (MReader.setCell_grown _ _ _ _)⟩
  have := HB.out.size
  simp only [World.setCell, Array.size_modify]; omega
 ·
  cases A with
  | none => have := hN rfl; omega
  | some ad =>
   obtain ⟨q, hq⟩ : ∃ q, c - m = q := ⟨_, rfl⟩
   obtain ⟨r, hr⟩ : ∃ r, l.length - m = r := ⟨_, rfl⟩
   have HQ := Aside0.mk hq
   have HRr := Aside0.mk hr
   clear hq hr
   go_enter Try.func23, Try.ntmps23
   go_wp2_with (first | ((with_reducible refine gate_dst (N := 26) rfl ?_); refine Kd.R_make (Kd.int .u8) _ 5 rfl (N := 26) rfl 22 _ _ rfl (m : Int) rfl rfl Try.underlying22 (.int .u8 0) 1 info5 rfl (by decide) (by omega) 0 (ok := fun k => k ≠ g ∧ k ≠ b) (okp := fun k => k ≠ g ∧ k ≠ b) rfl (fun _ hk => hk) (by constructor <;> omega) (by omega) (by omega) (Below.refl _ _) (Nat.le_refl _) ?_; intro v1 w1 ho1 hb hg_ hnew_; clear hg_ hnew_; rw [Int.toNat_natCast] at ho1; have HO1 := Aside0.mk ho1; obtain ⟨A1, c1, e1⟩ := Kd.R_slice ho1; rw [List.length_replicate] at e1; subst e1; replace HB := Aside0.mk (below_step HB.out hb); have y0 := pw_cell_below HB.out x0; have z0 := (HB.out.frozen (p := ⟨g, 0, none⟩) hglt).trans f0; clear hb ho1) | ((with_reducible refine gate_builtin (b := .copy) (xs := #[.tmp 27, .tmp 31]) rfl ?_); refine MCopy.R_copy (k := .u8) (w0 := w) (base := w.heap.size) (ok := fun k => k ≠ g ∧ k ≠ b) rfl (.tmp 27) (.tmp 31) 22 rfl Try.underlying22 (by kernel_rfl) (.slice A1 m c1) (List.replicate m 0) l (some ad) l.length c rfl rfl HO1.out (Kd.C_below HC.out HB.out) HB.out ?_; intro w2 n2 ho2 hb2; have HO2 := Aside0.mk ho2; clear y0 z0; clear HO1 HB ho2; have HB := Aside0.mk hb2; have y0 := pw_cell_below HB.out x0; have z0 := (HB.out.frozen (p := ⟨g, 0, none⟩) hglt).trans f0; clear hb2))
   go_ret
   obtain ⟨⟨A', c', e0, _⟩, hlt, hne⟩ := HR.out
   have e3 := (HB.out.block g hglt).trans e0
   have e1 := MReader.setCell_heap (w := w2) (j := 0) (u := .slice (some (ad.add m)) (l.length - m) (c - m)) e3
   have hC2 := Kd.C_drop (c := c) (Kd.C_below HC.out HB.out) hml HL.out
   rw [if_neg hcm] at hC2
   have hld : (l.drop m).length = l.length - m := List.length_drop
   have ht : l.take (List.replicate m (0 : Int)).length ++ (List.replicate m (0 : Int)).drop l.length = l.take m := by
    rw [List.length_replicate, List.drop_eq_nil_of_le (by rw [List.length_replicate]; omega), List.append_nil]
   have ho := HO2.out
   rw [ht] at ho
   have hg2 : w.grownBy w2 (some g) := ⟨HB.out.os, HB.out.tape, HB.out.output, HB.out.size, fun k hk _ => HB.out.block k hk⟩
   refine ⟨_, rfl, Kd.R_far ho (fun k hk => hk.1) _, ⟨⟨some (ad.add m), c - m, by rw [hld]; simpa using e1, by omega, ?_, (fun h0 => by cases h0), fun a ha => ?_⟩, ?_, hne⟩, MReader.grown_trans hg2 (MReader.setCell_grown _ _ _ _)⟩
   · refine MReader.C_block (w := w2) (b := b) ?_ (fun a ha => ?_) ?_
     · have e2 : (Kd.int .u8).sz = 1 := rfl
       rw [e2, Nat.mul_one] at hC2
       exact hC2
     · injection ha with ha
       rw [← ha, add_block]; exact hA _ rfl
     · exact Below.heap_setCell w2 ⟨g, 0, none⟩ _ b hne
   · injection ha with ha
     rw [← ha, add_block]; exact hA _ rfl
   · have := HB.out.size
     simp only [World.setCell, Array.size_modify]; omega

-- NOT PRINTED: function 24 (crosswayref01_Reader_Bytes)

-- NOT PRINTED: function 25 (crosswayref01_Reader_Num)

/-- A state of type 47 at block g of W; what its slices lead to came in by w0. -/
def IsS47 (w0 W : World) (g : Nat) (f0 : List Int) (f1 : Int) (f2 : Bool) : Prop := ∃ A0 c0, W.heap[g]? = some (.cells #[.slice A0 f0.length c0, .int .i64 f1, .bool f2] 47 (0, 0)) ∧ w0.heap.size ≤ g ∧ Kd.C (Kd.int .u8) w0 A0 f0.length f0
theorem IsS47.grown {w0 W : World} {g : Nat} {f0 : List Int} {f1 : Int} {f2 : Bool} {W1 : World} {row : Option Nat} (h : IsS47 w0 W g f0 f1 f2) (hw : W.grownBy W1 row) (hne : some g ≠ row) : IsS47 w0 W1 g f0 f1 f2 := by
 obtain ⟨A0, c0, hb, hg, hr0⟩ := h
 exact ⟨A0, c0, blk_grown hb hw hne, hg, hr0⟩
theorem IsS47.own_neN {w0 W : World} {g : Nat} {f0 : List Int} {f1 : Int} {f2 : Bool} {α : Type} {d : Kd α} {e : Nat} {base : Nat} {ok : Nat → Prop} {v : Value} {xs : List α} (h : IsS47 w0 W g f0 f1 f2) (ho : Kd.N d e W base ok v xs) (ht : e ≠ 47) : some g ≠ v.ownBlock := by
 obtain ⟨A0, c0, hb, hg, hr0⟩ := h
 exact Kd.N_ne ho hb ht
theorem IsS47.fresh {w0 W : World} {g : Nat} {f0 : List Int} {f1 : Int} {f2 : Bool} (h : IsS47 w0 W g f0 f1 f2) : ∀ k, W.heap.size ≤ k → k ≠ g := by
 obtain ⟨A0, c0, hb, hg, hr0⟩ := h
 exact Kd.freshB hb
theorem IsS47.kept {w0 W : World} {g : Nat} {f0 : List Int} {f1 : Int} {f2 : Bool} {W1 : World} {S : Nat → Prop} (h : IsS47 w0 W g f0 f1 f2) (hk : Kept W W1 S) (hne : ¬ S g) : IsS47 w0 W1 g f0 f1 f2 := by
 obtain ⟨A0, c0, hb, hg, hr0⟩ := h
 exact ⟨A0, c0, blk_kept hb hk hne, hg, hr0⟩
theorem IsS47.below {w0 W : World} {g : Nat} {f0 : List Int} {f1 : Int} {f2 : Bool} {W1 : World} (h : IsS47 w0 W g f0 f1 f2) (hw : Below W.heap.size W W1) : IsS47 w0 W1 g f0 f1 f2 := h.grown (grown_of_below hw none) (by simp)
theorem IsS47.alloc {w0 W : World} {g : Nat} {f0 : List Int} {f1 : Int} {f2 : Bool} (h : IsS47 w0 W g f0 f1 f2) (o : Obj) : IsS47 w0 (W.alloc o) g f0 f1 f2 := h.below (below_alloc (Below.refl _ _) o)
theorem IsS47.drewN {w0 W : World} {g : Nat} {f0 : List Int} {f1 : Int} {f2 : Bool} (h : IsS47 w0 W g f0 f1 f2) (m : Nat) : IsS47 w0 (W.drewN m) g f0 f1 f2 := h
theorem IsS47.drew {w0 W : World} {g : Nat} {f0 : List Int} {f1 : Int} {f2 : Bool} (h : IsS47 w0 W g f0 f1 f2) : IsS47 w0 W.drew g f0 f1 f2 := h
theorem IsS47.at_ {w0 W : World} {g : Nat} {f0 : List Int} {f1 : Int} {f2 : Bool} {w' : World} {m : Nat} (hq : W.drewN m = w') (h : IsS47 w0 W g f0 f1 f2) : IsS47 w0 w' g f0 f1 f2 := by subst hq; exact IsS47.drewN h m
theorem IsS47.apart {w0 W : World} {g : Nat} {f0 : List Int} {f1 : Int} {f2 : Bool} {α : Type} {d : Kd α} {e : Nat} {base : Nat} {ok : Nat → Prop} {v : Value} {xs : List α} (h : IsS47 w0 W g f0 f1 f2) (ho : d.R e W base ok v xs) (ht : ∀ q, q ∈ e :: d.E → q ≠ 47) : d.R e W base (fun k => ok k ∧ k ≠ g) v xs := by
 obtain ⟨A0, c0, hb, hg, hr0⟩ := h
 exact Kd.R_types ho hb ht
theorem IsS47.own_ne {w0 W : World} {g : Nat} {f0 : List Int} {f1 : Int} {f2 : Bool} {α : Type} {d : Kd α} {e : Nat} {base : Nat} {ok : Nat → Prop} {v : Value} {xs : List α} (h : IsS47 w0 W g f0 f1 f2) (ho : d.R e W base ok v xs) (ht : e ≠ 47) : some g ≠ v.ownBlock := by
 obtain ⟨A0, c0, hb, hg, hr0⟩ := h
 exact Kd.R_ne ho hb ht
theorem IsS47.apartQ {w0 W : World} {g : Nat} {f0 : List Int} {f1 : Int} {f2 : Bool} {α : Type} {d : Kd α} {e : Nat} {base : Nat} {ok : Nat → Prop} {v : Value} {xs : List α} (h : IsS47 w0 W g f0 f1 f2) (ho : d.Q e W base ok v xs) (ht : ∀ q, q ∈ e :: d.E → q ≠ 47) : d.Q e W base (fun k => ok k ∧ k ≠ g) v xs := by
 obtain ⟨A0, c0, hb, hg, hr0⟩ := h
 exact Kd.Q_types ho hb ht
theorem IsS47.own_neQ {w0 W : World} {g : Nat} {f0 : List Int} {f1 : Int} {f2 : Bool} {α : Type} {d : Kd α} {e : Nat} {base : Nat} {ok : Nat → Prop} {v : Value} {xs : List α} (h : IsS47 w0 W g f0 f1 f2) (ho : d.Q e W base ok v xs) (ht : e ≠ 47) : some g ≠ v.ownBlock := by
 obtain ⟨A0, c0, hb, hg, hr0⟩ := h
 exact Kd.Q_ne ho hb ht
theorem IsS47.apartS {w0 W : World} {g : Nat} {f0 : List Int} {f1 : Int} {f2 : Bool} {α : Type} {d : Kd α} {e : Nat} {base : Nat} {ok : Nat → Prop} {v : Value} {xs : List α} (h : IsS47 w0 W g f0 f1 f2) (ho : d.S e W base ok v xs) (ht : ∀ q, q ∈ e :: d.E → q ≠ 47) : d.S e W base (fun k => ok k ∧ k ≠ g) v xs := by
 obtain ⟨A0, c0, hb, hg, hr0⟩ := h
 exact Kd.S_types ho hb ht
theorem IsS47.own_neS {w0 W : World} {g : Nat} {f0 : List Int} {f1 : Int} {f2 : Bool} {α : Type} {d : Kd α} {e : Nat} {base : Nat} {ok : Nat → Prop} {v : Value} {xs : List α} (h : IsS47 w0 W g f0 f1 f2) (ho : d.S e W base ok v xs) (ht : e ≠ 47) : some g ≠ v.ownBlock := by
 obtain ⟨A0, c0, hb, hg, hr0⟩ := h
 exact Kd.S_ne ho hb ht
theorem IsS47.lt {w0 W : World} {g : Nat} {f0 : List Int} {f1 : Int} {f2 : Bool} (h : IsS47 w0 W g f0 f1 f2) : g < W.heap.size := by
 obtain ⟨A0, c0, hb, hg, hr0⟩ := h
 exact blk_lt hb
theorem IsS47.ge {w0 W : World} {g : Nat} {f0 : List Int} {f1 : Int} {f2 : Bool} (h : IsS47 w0 W g f0 f1 f2) : w0.heap.size ≤ g := by
 obtain ⟨A0, c0, hb, hg, hr0⟩ := h
 exact hg
theorem IsS47.ne_blk {w0 W : World} {g : Nat} {f0 : List Int} {f1 : Int} {f2 : Bool} {a : Nat} {cs : Array Value} {t : TypeId} {fr : Nat × Nat} (h : IsS47 w0 W g f0 f1 f2) (hb2 : W.heap[a]? = some (.cells cs t fr)) (ht : t ≠ 47) : g ≠ a := by
 obtain ⟨A0, c0, hb, hg, hr0⟩ := h
 rintro rfl
 rw [hb] at hb2
 injection hb2 with hb2
 injection hb2 with _ ht2
 exact ht ht2.symm
theorem IsS47.far {w0 W : World} {g : Nat} {f0 : List Int} {f1 : Int} {f2 : Bool} {p : Addr} (h : IsS47 w0 W g f0 f1 f2) (hne : g ≠ p.block) (u : Value) : IsS47 w0 (W.setCell p u) g f0 f1 f2 := by
 obtain ⟨A0, c0, hb, hg, hr0⟩ := h
 exact ⟨A0, c0, blk_far hb hne u, hg, hr0⟩
theorem cellS47_0 {W : World} {g : Nat} {A0 : Option Addr} {c0 : Nat} {f0 : List Int} {f1 : Int} {f2 : Bool} (h : W.heap[g]? = some (.cells #[.slice A0 f0.length c0, .int .i64 f1, .bool f2] 47 (0, 0))) : W.cell? ⟨g, 0, none⟩ = some (.slice A0 f0.length c0) := (blk_cell h 0).trans rfl
theorem cellS47_1 {W : World} {g : Nat} {A0 : Option Addr} {c0 : Nat} {f0 : List Int} {f1 : Int} {f2 : Bool} (h : W.heap[g]? = some (.cells #[.slice A0 f0.length c0, .int .i64 f1, .bool f2] 47 (0, 0))) : W.cell? ⟨g, 1, none⟩ = some (.int .i64 f1) := (blk_cell h 1).trans rfl
theorem IsS47.set_1 {w0 W : World} {g : Nat} {f0 : List Int} {f1 : Int} {f2 : Bool} (h : IsS47 w0 W g f0 f1 f2) (x : Int) : IsS47 w0 (W.setCell ⟨g, 1, none⟩ (.int .i64 x)) g f0 x f2 := by
 obtain ⟨A0, c0, hb, hg, hr0⟩ := h
 exact ⟨A0, c0, by simpa using blk_set hb 1 (.int .i64 x), hg, hr0⟩
theorem cellS47_2 {W : World} {g : Nat} {A0 : Option Addr} {c0 : Nat} {f0 : List Int} {f1 : Int} {f2 : Bool} (h : W.heap[g]? = some (.cells #[.slice A0 f0.length c0, .int .i64 f1, .bool f2] 47 (0, 0))) : W.cell? ⟨g, 2, none⟩ = some (.bool f2) := (blk_cell h 2).trans rfl
theorem IsS47.set_2 {w0 W : World} {g : Nat} {f0 : List Int} {f1 : Int} {f2 : Bool} (h : IsS47 w0 W g f0 f1 f2) (x : Bool) : IsS47 w0 (W.setCell ⟨g, 2, none⟩ (.bool x)) g f0 f1 x := by
 obtain ⟨A0, c0, hb, hg, hr0⟩ := h
 exact ⟨A0, c0, by simpa using blk_set hb 2 (.bool x), hg, hr0⟩
theorem IsS47.new (w0 W : World) (A0 : Option Addr) (c0 : Nat) (f0 : List Int) (f1 : Int) (f2 : Bool) (hB : Below w0.heap.size w0 W) (hr0 : Kd.C (Kd.int .u8) w0 A0 f0.length f0) : IsS47 w0 (W.alloc (.cells #[.slice A0 f0.length c0, .int .i64 f1, .bool f2] 47)) W.heap.size f0 f1 f2 := ⟨A0, c0, by simpa using heap_alloc_new W _, hB.size, hr0⟩

/-! ### crosswayref01_Reader_Left: function 26 -/
def crosswayref01_Reader_Left.f (s0_0 : List Int) (s0_1 : Int) (s0_2 : Bool) : Option (Int × Int × Bool) := if s0_2 = true then (some (0, s0_1, s0_2)) else (some (wrap64 ((s0_0.length : Int) - s0_1), s0_1, s0_2))
set_option maxHeartbeats 8000000 in
set_option maxRecDepth 100000 in
theorem crosswayref01_Reader_Left.calls (g : Nat) (s0_0 : List Int) (s0_1 : Int) (s0_2 : Bool) (r1 : Int) (r2 : Int) (r3 : Bool) (w0 w : World) (hI : IsS47 w0 w g s0_0 s0_1 s0_2) (hB : Below w0.heap.size w0 w) (h : crosswayref01_Reader_Left.f s0_0 s0_1 s0_2 = some (r1, r2, r3)) :
  Calls Try.prog 26 #[.pointer (some ⟨g, 0, none⟩)] w fun e w' => e = .returned (.int .i64 r1) ∧ IsS47 w0 w' g s0_0 r2 r3 ∧ Below w0.heap.size w0 w' ∧ KeepBut w w' g none := by
 have HI0 := Aside0.mk hI
 have HK := Aside0.mk (KeepBut.refl w g none)
 have HL := Aside0.mk hB.size
 clear hI
 have HW0 := Aside0.mk hB.size
 have HB := Aside0.mk hB
 clear hB
 have H : (if s0_2 = true then (some (0, s0_1, s0_2)) else (some (wrap64 ((s0_0.length : Int) - s0_1), s0_1, s0_2))) = some (r1, r2, r3) := h
 clear h
 by_cases c2 : s0_2 = true
 ·
  subst c2
  rw [if_pos rfl] at H
  simp only [Option.some.injEq, Prod.mk.injEq] at H
  obtain ⟨rfl, rfl, rfl⟩ := H
  obtain ⟨ASz3_0, cSz3_0, HGz3, hgz3, HSz3_0⟩ := HI0.out
  have hcz3_0 := cellS47_0 HGz3
  have hcz3_1 := cellS47_1 HGz3
  have hcz3_2 := cellS47_2 HGz3
  have hfz3_1 := blk_frozen HGz3 1
  have hfz3_2 := blk_frozen HGz3 2
  clear HGz3 hgz3
  go_enter Try.func26, Try.ntmps26
  go_wp2
  repeat (go_quiet (fail); try go_wp2)
  go_ret
  exact ⟨by first | rfl | (simp [errW_none, errW_some] <;> rfl) | (simp [*, errW_none, errW_some] <;> rfl), by repeat (first | (with_reducible first | exact HI0.out | apply IsS47.alloc | apply IsS47.drewN | apply IsS47.drew | apply IsS47.set_1 | apply IsS47.set_2) | exact HI0.out), by repeat (first | (with_reducible first | exact HB.out | apply below_alloc | apply pw_below_drewN | apply below_drew1 | refine below_set ?_ (IsS47.ge HI0.out)) | exact HB.out), by repeat (first | (with_reducible first | exact HK.out | apply KeepBut.set_ | apply keep_drewN | apply keep_drew | apply keep_alloc) | exact HK.out)⟩
 ·
  replace c2 := Bool.eq_false_iff.mpr c2
  subst c2
  rw [if_neg (show ¬ (false = true) by decide)] at H
  simp only [Option.some.injEq, Prod.mk.injEq] at H
  obtain ⟨rfl, rfl, rfl⟩ := H
  obtain ⟨ASz4_0, cSz4_0, HGz4, hgz4, HSz4_0⟩ := HI0.out
  have hcz4_0 := cellS47_0 HGz4
  have hcz4_1 := cellS47_1 HGz4
  have hcz4_2 := cellS47_2 HGz4
  have hfz4_1 := blk_frozen HGz4 1
  have hfz4_2 := blk_frozen HGz4 2
  clear HGz4 hgz4
  go_enter Try.func26, Try.ntmps26
  go_wp2
  repeat (go_quiet (fail); try go_wp2)
  go_ret
  exact ⟨by first | rfl | (simp [errW_none, errW_some] <;> rfl) | (simp [*, errW_none, errW_some] <;> rfl), by repeat (first | (with_reducible first | exact HI0.out | apply IsS47.alloc | apply IsS47.drewN | apply IsS47.drew | apply IsS47.set_1 | apply IsS47.set_2) | exact HI0.out), by repeat (first | (with_reducible first | exact HB.out | apply below_alloc | apply pw_below_drewN | apply below_drew1 | refine below_set ?_ (IsS47.ge HI0.out)) | exact HB.out), by repeat (first | (with_reducible first | exact HK.out | apply KeepBut.set_ | apply keep_drewN | apply keep_drew | apply keep_alloc) | exact HK.out)⟩

-- NOT PRINTED: function 7 (crosswaylaw01_OctetReads)

-- NOT PRINTED: function 8 (crosswaylaw01_OctetShort)

end Go.Proofs.Ytbfchmfanbeocaa.PBase
