/-
  The document's reader in memory and its calls. Conditions: those of each theorem.
-/
import Derived.Test.YtbfchmfanbeocaaPBasex4
import Derived.Test.YtbfchmfanbeocaaPureRef01
import Derived.Test.YtbfchmfanbeocaaMReader
import Derived.Outline
set_option linter.unusedVariables false
set_option linter.unusedSimpArgs false
namespace Go.Proofs.Ytbfchmfanbeocaa.WOctetReads
open Go.RowKit Go.Proofs.Ytbfchmfanbeocaa.PBase Go.Proofs.YtbfchmfanbeocaaW.PrintWords Go.Proofs.YtbfchmfanbeocaaW.PrintLast Go.Proofs.YtbfchmfanbeocaaW.PrintMore
/-! Small facts for walks by hand. -/
theorem drewN_below {w w1 : World} (h : Below w.heap.size w w1) (n : Nat) : Below w.heap.size w (w1.drewN n) := pw_below_drewN h n
theorem below_of {w w1 w2 : World} (h : Below w.heap.size w w1) (h2 : Below w1.heap.size w1 w2) : Below w.heap.size w w2 := below_step h h2
/-- One slice in a new block: a row of one slice, that is read. -/
theorem C_one {e : Nat} {α : Type} {d : Kd α} {w : World} {A : Option Addr} {l : List α} {c : Nat} {ad : Addr} (hr : d.C w A l.length l) (hc : l.length ≤ c) (hcell : w.cell? ad = some (.slice A l.length c)) : Kd.C (Kd.slice e d) w (some ad) [l].length [l] := by
  refine ⟨rfl, by simp, fun _ => ⟨ad, rfl, fun j p hj => ?_⟩⟩
  cases j with
  | zero =>
    obtain rfl : l = p := by simpa using hj
    refine ⟨[.slice A l.length c], rfl, ⟨A, c, rfl, hc, hr⟩, fun i u hu => ?_⟩
    cases i with
    | zero =>
      obtain rfl : Value.slice A l.length c = u := by simpa using hu
      have e : ad.add (0 * (Kd.slice e d).sz + 0) = ad := by rw [Nat.zero_mul]; unfold Addr.add; cases ad; rename_i b o f; cases f <;> rfl
      rw [e]; exact hcell
    | succ i => simp at hu
  | succ j => simp at hj
/-- A variadic call's row of one slice: the new block, and its one cell. -/
theorem C_var {e t : Nat} {α : Type} {d : Kd α} {W : World} {A : Option Addr} {l : List α} {c b : Nat} (hr : d.C W A l.length l) (hc : l.length ≤ c) (hb : b = W.heap.size) :
    Kd.C (Kd.slice e d) (W.alloc (.cells #[.slice A l.length c] t)) (some ⟨b, 0, none⟩) [l].length [l] :=
  C_one (Kd.C_below hr (below_alloc (Below.refl _ _) _)) hc (by subst hb; simp)
/-- Lent bytes: what is read of them. -/
theorem lent_reads {w' : World} {base g c : Nat} {l : List Int} {e : Nat} (h : Kd.R (Kd.int .u8) e w' base (fun _ => True) (.slice (some ⟨g, 0, none⟩) (l.length + 2) c) (l ++ [201, 202])) :
    l.length ≤ c ∧ (l.length + 2 ≤ c ∧ Kd.C (Kd.int .u8) w' (some ⟨g, 0, none⟩) (l.length + 2) (l ++ [201, 202])) ∧ Kd.C (Kd.int .u8) w' (some ⟨g, 0, none⟩) l.length l := by
  have h1 := Kd.R_reads' h
  have h0 : (l ++ [201, 202]).length = l.length + 2 := by simp
  have h2 := Kd.C_take (m := l.length) h1.2.2 (by rw [h0]; omega)
  rw [List.take_left] at h2
  have h3 := h1.2.1
  have h4 := h1.2.2
  rw [h0] at h4
  exact ⟨by omega, ⟨h3, h4⟩, h2⟩
/-- What a reader is asked for, as it lies in a row. -/
structure S44 where
  f0 : Bool
  f1 : Int
def z44 : S44 := ⟨false, 0⟩
def k44 : Kd S44 := Kd.iso (Kd.pair Kd.bool (Kd.int .i64)) (fun x : S44 => (x.f0, x.f1))
theorem k44_open {w : World} {x : S44} {cs : List Value} (h : k44.K w x cs) : cs = [.bool x.f0, .int .i64 x.f1] := by
  obtain ⟨_, _, rfl, rfl, rfl⟩ := h
  exact rfl
theorem at_take {w : World} {A : Option Addr} {xs : List S44} (h : Kd.C k44 w A xs.length xs) {i : Nat} (h1 : i < xs.length) : ∃ ad, A = some ad ∧ w.cell? (ad.add (i * 2)) = some (.bool xs[i].f0) ∧ w.cell? ⟨(ad.add (i * 2)).block, (ad.add (i * 2)).off + 1, none⟩ = some (.int .i64 xs[i].f1) := by
  obtain ⟨ad, c, e, _, hK, hc0⟩ := Kd.C_get h z44 (i : Int) (by omega) (by omega)
  rw [Int.toNat_natCast] at hc0 hK
  have hg : xs.getD i z44 = xs[i] := by simp [List.getD_eq_getElem?_getD, List.getElem?_eq_getElem h1]
  rw [hg] at hK
  have hc : ∀ j u, c[j]? = some u → w.cell? (ad.add (i * 2 + j)) = some u := hc0
  obtain rfl := k44_open hK
  exact ⟨ad, e, hc 0 _ rfl, by rw [← add_field _ _ 1 (by omega)]; exact hc 1 _ rfl⟩
/-- Block g is the document's reader (type T) of the bytes l, which lie in block B (none: nowhere), at a place; bad: was it asked for too much? -/
structure RRd (T : Nat) (w : World) (g : Nat) (B : Option Nat) (l : List Int) (p : Int) (bad : Bool) : Prop where mk ::
  (out : ∃ A c, w.heap[g]? = some (.cells #[.slice A l.length c, .int .i64 p, .bool bad] T (0, 0)) ∧ l.length ≤ c ∧ (Kd.int .u8).C w A l.length l ∧ ∀ ad, A = some ad → B = some ad.block)
  (lt : ∀ q, B = some q → q < w.heap.size ∧ q ≠ g)
section
variable {T g : Nat} {B : Option Nat} {w w1 : World} {l : List Int} {p : Int} {bad : Bool}
theorem C_at {k : IntKind} {A : Option Addr} {n : Nat} (h : (Kd.int k).C w A n l) (hb : ∀ ad, A = some ad → w1.heap[ad.block]? = w.heap[ad.block]?) : (Kd.int k).C w1 A n l := by
  obtain ⟨h1, h2, h3⟩ := h
  refine ⟨h1, h2, fun hn => ?_⟩
  obtain ⟨ad, rfl, hc⟩ := h3 hn
  refine ⟨ad, rfl, fun j p hj => ?_⟩
  obtain ⟨c, hl, hK, hcell⟩ := hc j p hj
  refine ⟨c, hl, hK, fun i u hu => ?_⟩
  have h4 := hcell i u hu
  have e1 : w1.heap[(ad.add (j * (Kd.int k).sz + i)).block]? = w.heap[(ad.add (j * (Kd.int k).sz + i)).block]? := by rw [add_block]; exact hb ad rfl
  simpa [World.cell?, e1] using h4
theorem RRd.keep (h : RRd T w g B l p bad) (hg : w1.heap[g]? = w.heap[g]?) (hb : ∀ q, B = some q → w1.heap[q]? = w.heap[q]?) (hs : w.heap.size ≤ w1.heap.size) : RRd T w1 g B l p bad := by
  obtain ⟨⟨A, c, h1, h2, h3, h4⟩, h5⟩ := h
  exact ⟨⟨A, c, hg.trans h1, h2, C_at h3 (fun ad e => hb _ (h4 ad e)), h4⟩, fun q hq => ⟨Nat.lt_of_lt_of_le (h5 q hq).1 hs, (h5 q hq).2⟩⟩
theorem RRd.glt (h : RRd T w g B l p bad) : g < w.heap.size := by
  obtain ⟨⟨A, c, h1, _⟩, _⟩ := h
  exact (Array.getElem?_eq_some_iff.1 h1).1
theorem RRd.below (h : RRd T w g B l p bad) (hb : Below w.heap.size w w1) : RRd T w1 g B l p bad := h.keep (hb.block _ h.glt) (fun q hq => hb.block _ (h.lt q hq).1) hb.size
theorem RRd.drewN (h : RRd T w g B l p bad) (n : Nat) : RRd T (w.drewN n) g B l p bad := h.keep rfl (fun _ _ => rfl) (Nat.le_refl _)
theorem RRd.grown (h : RRd T w g B l p bad) {row : Option Nat} (hg : w.grownBy w1 row) (n1 : some g ≠ row) (n2 : ∀ q, B = some q → some q ≠ row) : RRd T w1 g B l p bad :=
  h.keep (hg.block _ h.glt n1) (fun q hq => hg.block _ (h.lt q hq).1 (n2 q hq)) hg.size
/-- One of the reader's own cells is written. -/
theorem RRd.set1 (h : RRd T w g B l p bad) (q : Int) : RRd T (w.setCell ⟨g, 1, none⟩ (.int .i64 q)) g B l q bad := by
  obtain ⟨⟨A, c, h1, h2, h3, h4⟩, h5⟩ := h
  exact ⟨⟨A, c, MReader.setCell_heap h1, h2, C_at h3 (fun ad e => Below.heap_setCell w ⟨g, 1, none⟩ _ _ (h5 _ (h4 ad e)).2), h4⟩, fun q hq => ⟨by simpa [World.setCell] using (h5 q hq).1, (h5 q hq).2⟩⟩
theorem RRd.set2 (h : RRd T w g B l p bad) (b : Bool) : RRd T (w.setCell ⟨g, 2, none⟩ (.bool b)) g B l p b := by
  obtain ⟨⟨A, c, h1, h2, h3, h4⟩, h5⟩ := h
  exact ⟨⟨A, c, MReader.setCell_heap h1, h2, C_at h3 (fun ad e => Below.heap_setCell w ⟨g, 2, none⟩ _ _ (h5 _ (h4 ad e)).2), h4⟩, fun q hq => ⟨by simpa [World.setCell] using (h5 q hq).1, (h5 q hq).2⟩⟩
theorem RRd.cells (h : RRd T w g B l p bad) : ∃ A c, w.cell? ⟨g, 0, none⟩ = some (.slice A l.length c) ∧ w.cell? ⟨g, 1, none⟩ = some (.int .i64 p) ∧ w.cell? ⟨g, 2, none⟩ = some (.bool bad) ∧ w.frozen? ⟨g, 1, none⟩ = false ∧ w.frozen? ⟨g, 2, none⟩ = false ∧ l.length ≤ c ∧ (Kd.int .u8).C w A l.length l := by
  obtain ⟨⟨A, c, h1, h2, h3, h4⟩, h5⟩ := h
  exact ⟨A, c, by simp [World.cell?, h1], by simp [World.cell?, h1], by simp [World.cell?, h1], by simp [World.frozen?, h1], by simp [World.frozen?, h1], h2, h3⟩
end
set_option maxHeartbeats 1000000 in
set_option maxRecDepth 100000 in
theorem rnew (A0 : Option Addr) (c0 : Nat) (l0 : List Int) (w : World) (hr0 : Kd.C (Kd.int .u8) w A0 l0.length l0) (hc0 : l0.length ≤ c0) (hl : l0.length ≤ 140737488355200) :
    Calls Try.prog 22 #[.slice A0 l0.length c0] w fun e w' => ∃ B, e = .returned (.pointer (some ⟨w.heap.size, 0, none⟩)) ∧ RRd 47 w' w.heap.size B l0 0 false ∧ (∀ q, B = some q → w.heap.size < q) ∧ Below w.heap.size w w' := by
  have HR0 := Aside0.mk hr0; have HLL := Aside0.mk hl
  clear hr0 hc0
  obtain ⟨N, hN⟩ : ∃ N, l0.length = N := ⟨_, rfl⟩
  have HR1 := Aside0.mk (show Kd.C (Kd.int .u8) w A0 N l0 by rw [← hN]; exact HR0.out)
  rw [hN] at hl ⊢
  have HN := Aside0.mk hN
  clear hN HR0
  go_enter Try.func22, Try.ntmps22
  go_wp2_with (first | ((with_reducible refine gate_builtin (b := .append) (xs := #[.tmp 10, .tmp 11]) rfl ?_); at_builtin; refine Kd.R_append_rows (Kd.int .u8) (w0 := w.alloc (.cells #[.slice none 0 0, .int .i64 0, .bool false] 47)) (w.heap.size + 1) rfl (.tmp 10) (.tmp 11) 22 5 (.int .u8 0) 1 rfl Try.underlying22 info5 rfl (by decide) (by omega) (.slice none 0 0) ([] : List Int) l0 _ _ _ (fun k => w.heap.size < k) (fun _ => False) rfl rfl ?aO ?aR (fun _ _ h => h) (fun _ h => h.elim) ?aF ?aB ?aS ?aL ?_; (case aR => exact Kd.C_alloc HR1.out _); (case aB => exact (by have := Below.refl (w.heap.size + 1) (w.alloc (.cells #[.slice none 0 0, .int .i64 0, .bool false] 47)); exact this)); (case aF => exact (fun k hk => by simp at hk; omega)); (case aO => exact (Kd.R_nil _ _ _ _ _)); (case aS => exact (by simp)); (case aL => simp only [List.length_nil]; omega); intro v1 w6 ho hb hg hat; rw [List.nil_append] at ho; obtain ⟨A1, c1, e1⟩ := Kd.R_slice ho; rw [HN.out] at e1; subst e1; have y0 : w6.cell? ⟨w.heap.size, 0, none⟩ = some (.slice none 0 0) := (hb.cell (p := ⟨w.heap.size, 0, none⟩) (by simp)).trans (by simp); have z0 : w6.frozen? ⟨w.heap.size, 0, none⟩ = false := (hb.frozen (p := ⟨w.heap.size, 0, none⟩) (by simp)).trans (by simp); have HB := Aside0.mk hb; have HO := Aside0.mk ho; clear ho hb hg hat))
  go_ret
  have e0 : w6.heap[w.heap.size]? = some (.cells #[.slice none 0 0, .int .i64 0, .bool false] 47 (0, 0)) := (HB.out.block _ (by omega)).trans (heap_alloc_new w _)
  have hs6 : w.heap.size + 1 ≤ w6.heap.size := by have := HB.out.size; simpa using this
  have hbel : Below w.heap.size w w6 := ((Below.refl _ _).alloc (Nat.le_refl _) _).trans (HB.out.mono (by omega))
  have hfar := Kd.R_far (p := ⟨w.heap.size, 0, none⟩) HO.out (fun k (hk : w.heap.size < k) => by simp only; omega) (.slice A1 N c1)
  have hrd := Kd.R_reads' hfar
  have hN := HN.out
  subst hN
  refine ⟨(Value.slice A1 l0.length c1).ownBlock, rfl, ⟨⟨A1, c1, MReader.setCell_heap e0, hrd.2.1, hrd.2.2, fun ad e => by rw [e]; rfl⟩, fun q hq => ⟨Kd.R_lt hfar q hq, ?_⟩⟩, fun q hq => HO.out.1 q hq, below_set hbel (Nat.le_refl _)⟩
  have := HO.out.1 q hq
  omega
set_option maxHeartbeats 1000000 in
set_option maxRecDepth 100000 in
theorem rleft (g : Nat) (B : Option Nat) (l : List Int) (p : Int) (w : World) (h : RRd 47 w g B l p false) (h0 : 0 ≤ p) (h1 : p ≤ (l.length : Int)) (hl : l.length ≤ 140737488355200) :
    Calls Try.prog 26 #[.pointer (some ⟨g, 0, none⟩)] w fun e w' => e = .returned (.int .i64 ((l.length : Int) - p)) ∧ Drawn0 w w' := by
  obtain ⟨A, c, x0, x1, x2, f1, f2, hl, hC⟩ := h.cells
  clear h hC
  go_enter Try.func26, Try.ntmps26
  go_wp2
  repeat (go_quiet (fail); try go_wp2)
  go_ret
  exact ⟨rfl, ⟨_, rfl⟩⟩
set_option maxHeartbeats 1000000 in
set_option maxRecDepth 100000 in
theorem rleft_bad (g : Nat) (B : Option Nat) (l : List Int) (p : Int) (w : World) (h : RRd 47 w g B l p true) :
    Calls Try.prog 26 #[.pointer (some ⟨g, 0, none⟩)] w fun e w' => e = .returned (.int .i64 0) ∧ Drawn0 w w' := by
  obtain ⟨A, c, x0, x1, x2, f1, f2, hl, hC⟩ := h.cells
  clear h hC
  go_enter Try.func26, Try.ntmps26
  go_wp2
  go_ret
  exact ⟨rfl, Drawn0.refl _⟩
set_option maxHeartbeats 1000000 in
set_option maxRecDepth 100000 in
theorem rnum_bad (k : Nat) (g : Nat) (B : Option Nat) (l : List Int) (p : Int) (s : Bool) (width n : Int) (ok : Bool) (w : World) (h : RRd 47 w g B l p s) (hg : crosswayref01_Get.f k l p width = some (n, ok)) (hbad : s = true ∨ ok = false) :
    Calls Try.prog 25 #[.pointer (some ⟨g, 0, none⟩), .int .i64 width] w fun e w' => e = .returned (.int .u64 0) ∧ RRd 47 w' g B l p true ∧ w.grownBy w' (some g) := by
  obtain ⟨A, c, x0, x1, x2, f1, f2, hl, hC⟩ := h.cells
  have HR := Aside0.mk h
  have HG := Aside0.mk hg
  have HC := Aside0.mk hC
  have HL := Aside0.mk hl
  clear h hg hl hC
  cases s with
  | true =>
    clear hbad
    go_enter Try.func25, Try.ntmps25
    go_wp2_with fail
    go_quiet ((go_at_call 16; exact Calls.quiet_of ((crosswayref01_Get.calls k _ _ l p width n ok _ (Kd.C_drewN HC.out _) HL.out HG.out).mono fun _ _ h => ⟨h.1, h.2.out⟩)))
    go_wp2_with fail
    go_ret
    exact ⟨rfl, (HR.out.drewN _).set2 true, MReader.drewN_grown (MReader.setCell_grown _ _ _ _)⟩
  | false =>
    obtain rfl : ok = false := by rcases hbad with h | h; cases h; exact h
    clear hbad
    go_enter Try.func25, Try.ntmps25
    go_wp2_with fail
    go_quiet ((go_at_call 16; exact Calls.quiet_of ((crosswayref01_Get.calls k _ _ l p width n false _ (Kd.C_drewN HC.out _) HL.out HG.out).mono fun _ _ h => ⟨h.1, h.2.out⟩)))
    go_wp2_with fail
    go_ret
    exact ⟨rfl, (HR.out.drewN _).set2 true, MReader.drewN_grown (MReader.setCell_grown _ _ _ _)⟩
set_option maxHeartbeats 1000000 in
set_option maxRecDepth 100000 in
theorem rnum_ok (k : Nat) (g : Nat) (B : Option Nat) (l : List Int) (p : Int) (width n : Int) (w : World) (h : RRd 47 w g B l p false) (hg : crosswayref01_Get.f k l p width = some (n, true)) (h0 : 0 ≤ p) (h1 : 0 ≤ width) (h2 : p + width ≤ (l.length : Int)) (hll : l.length ≤ 140737488355200) :
    Calls Try.prog 25 #[.pointer (some ⟨g, 0, none⟩), .int .i64 width] w fun e w' => e = .returned (.int .u64 n) ∧ RRd 47 w' g B l (p + width) false ∧ w.grownBy w' (some g) := by
  obtain ⟨A, c, x0, x1, x2, f1, f2, hl, hC⟩ := h.cells
  have HR := Aside0.mk h
  have HG := Aside0.mk hg
  have HC := Aside0.mk hC
  have HL := Aside0.mk hl
  clear h hg hC
  go_enter Try.func25, Try.ntmps25
  go_wp2_with fail
  go_quiet ((go_at_call 16; exact Calls.quiet_of ((crosswayref01_Get.calls k _ _ l p width n true _ (Kd.C_drewN HC.out _) HL.out HG.out).mono fun _ _ h => ⟨h.1, h.2.out⟩)))
  go_wp2_with fail
  go_ret
  exact ⟨rfl, (HR.out.drewN _).set1 _, MReader.drewN_grown (MReader.setCell_grown _ _ _ _)⟩
set_option maxHeartbeats 1000000 in
set_option maxRecDepth 100000 in
theorem rbytes_bad (g : Nat) (B : Option Nat) (l : List Int) (p : Int) (s : Bool) (n : Int) (w : World) (h : RRd 47 w g B l p s) (h0 : 0 ≤ p) (h1 : p ≤ (l.length : Int)) (hll : l.length ≤ 140737488355200) (hbad : s = true ∨ n < 0 ∨ (l.length : Int) - p < n) :
    Calls Try.prog 24 #[.pointer (some ⟨g, 0, none⟩), .int .i64 n] w fun e w' => e = .returned (.slice none 0 0) ∧ RRd 47 w' g B l p true ∧ w.grownBy w' (some g) := by
  obtain ⟨A, c, x0, x1, x2, f1, f2, hl, hC⟩ := h.cells
  have HR := Aside0.mk h
  clear h hl hC
  cases s with
  | true =>
    clear hbad
    go_enter Try.func24, Try.ntmps24
    go_wp2_with fail
    go_quiet (fail)
    go_wp2_with fail
    go_ret
    exact ⟨rfl, (HR.out.drewN _).set2 true, MReader.drewN_grown (MReader.setCell_grown _ _ _ _)⟩
  | false =>
    have hbad2 : n < 0 ∨ (l.length : Int) - p < n := by rcases hbad with h | h; cases h; exact h
    clear hbad
    rcases hbad2 with h2 | h2
    · have d2 : decide (n < 0) = true := decide_eq_true h2
      go_enter Try.func24, Try.ntmps24
      go_wp2_with fail
      go_quiet (fail)
      go_wp2_with fail
      go_ret
      exact ⟨rfl, (HR.out.drewN _).set2 true, MReader.drewN_grown (MReader.setCell_grown _ _ _ _)⟩
    · have d1 : decide (n < 0) = false := decide_eq_false (by omega)
      have d2 : decide (n > (l.length : Int) - p) = true := decide_eq_true h2
      have hwr : IntKind.i64.wrap ((l.length : Int) - p) = (l.length : Int) - p := IntWalk.i64_in _ (by omega)
      go_enter Try.func24, Try.ntmps24
      go_wp2_with fail
      go_quiet (fail)
      go_wp2_with fail
      go_ret
      exact ⟨rfl, (HR.out.drewN _).set2 true, MReader.drewN_grown (MReader.setCell_grown _ _ _ _)⟩
set_option maxHeartbeats 1000000 in
set_option maxRecDepth 100000 in
theorem rbytes_ok (g : Nat) (B : Option Nat) (l : List Int) (p n : Nat) (w : World) (h : RRd 47 w g B l (p : Int) false) (h1 : p + n ≤ l.length) (hll : l.length ≤ 140737488355200) :
    Calls Try.prog 24 #[.pointer (some ⟨g, 0, none⟩), .int .i64 (n : Int)] w fun e w' => ∃ v, e = .returned v ∧ Kd.R (Kd.int .u8) 5 w' w.heap.size (fun _ => True) v ((l.drop p).take n) ∧ RRd 47 w' g B l ((p : Int) + (n : Int)) false ∧ w.grownBy w' (some g) := by
  obtain ⟨A, c, x0, x1, x2, f1, f2, hl, hC⟩ := h.cells
  have HR := Aside0.mk h
  have hglt := h.glt
  obtain ⟨i0, hi0, _, hsz, _⟩ := info_parts info5
  have hcut := cut_mid (P := Try.prog) 22 5 .i64 .i64 Try.underlying22 hi0 1 hsz A l.length c (p : Int) ((p : Int) + (n : Int)) (by omega) (by omega) (by omega) hl
  have hmid := Kd.C_mid (lo := p) (hi := p + n) hC (by omega) h1 hl
  rw [show (Kd.int .u8).sz = 1 from rfl] at hmid
  rw [show ((p : Int)).toNat = p from Int.toNat_natCast p, show ((p : Int) + (n : Int)).toNat - p = n by omega] at hcut
  obtain ⟨A2, hA2⟩ : ∃ A2, (if c = p then A else A.map (·.add (p * 1))) = A2 := ⟨_, rfl⟩
  obtain ⟨c2, hc2⟩ : ∃ c2, c - p = c2 := ⟨_, rfl⟩
  rw [hA2, hc2] at hcut
  have hdt : (l.take (p + n)).drop p = (l.drop p).take n := by rw [List.drop_take]; congr 1; omega
  have hln : ((l.drop p).take n).length = n := by rw [List.length_take, List.length_drop]; omega
  rw [hA2, hdt, hln] at hmid
  obtain ⟨m, hm⟩ : ∃ m, (l.drop p).take n = m := ⟨_, rfl⟩
  rw [hm] at hmid hln ⊢
  have HM := Aside0.mk hmid
  have hn : n ≤ 140737488355200 := by omega
  have HLN := Aside0.mk hln
  have d1 : decide ((n : Int) < 0) = false := decide_eq_false (by omega)
  have d2 : decide ((n : Int) > (l.length : Int) - (p : Int)) = false := decide_eq_false (by omega)
  have hwr : IntKind.i64.wrap ((l.length : Int) - (p : Int)) = (l.length : Int) - (p : Int) := IntWalk.i64_in _ (by omega)
  have hwr2 : IntKind.i64.wrap ((p : Int) + (n : Int)) = (p : Int) + (n : Int) := IntWalk.i64_in _ (by omega)
  clear h hC hmid hdt hm hln hA2 hc2 hsz hi0
  go_enter Try.func24, Try.ntmps24
  go_wp2_with fail
  go_quiet (fail)
  go_wp2_with fail
  obtain ⟨w1, hw1⟩ : ∃ w1, w.drewN nq = w1 := ⟨_, rfl⟩
  rw [hw1]
  replace x0 : w1.cell? ⟨g, 0, none⟩ = some (.slice A l.length c) := by rw [← hw1]; exact x0
  replace x1 : w1.cell? ⟨g, 1, none⟩ = some (.int .i64 (p : Int)) := by rw [← hw1]; exact x1
  replace x2 : w1.frozen? ⟨g, 1, none⟩ = false := by rw [← hw1]; exact f1
  have HW1 := Aside0.mk hw1
  clear hw1 f1 f2
  go_still_tail 16, (by kernel_rfl)
  change wpList _ _ _ _ _ w1.drew
  have y1 : w1.drew.cell? ⟨g, 1, none⟩ = some (.int .i64 (p : Int)) := x1
  have z1 : w1.drew.frozen? ⟨g, 1, none⟩ = false := x2
  have hsz1 : w1.drew.heap.size = w.heap.size := by rw [← HW1.out]; rfl
  have HM1 := Aside0.mk (show Kd.C (Kd.int .u8) w1.drew A2 n m by rw [← HW1.out]; exact HM.out)
  have HRD := Aside0.mk (show RRd 47 w1.drew g B l (p : Int) false by have := (HR.out.drewN nq); rw [HW1.out] at this; exact this.drewN 1)
  have HG1 := Aside0.mk (show w.grownBy w1.drew (some g) by rw [← HW1.out]; exact ⟨rfl, rfl, rfl, Nat.le_refl _, fun _ _ _ => rfl⟩)
  obtain ⟨w2, hw2⟩ : ∃ w2, w1.drew = w2 := ⟨_, rfl⟩
  rw [hw2] at y1 z1 hsz1 HM1 HRD HG1 ⊢
  have hgl2 : g < w2.heap.size := by omega
  have HS := Aside0.mk hsz1
  clear hw2 x0 x1 x2 HW1 hcut hsz1 hglt
  go_wp2_with (first | ((with_reducible refine gate_builtin (b := .append) (xs := #[.tmp 31, .tmp 46]) rfl ?_); at_builtin; refine Kd.R_append_rows (Kd.int .u8) (w0 := w2) w2.heap.size rfl (.tmp 31) (.tmp 46) 22 5 (.int .u8 0) 1 rfl Try.underlying22 info5 rfl (by decide) (by omega) (.slice none 0 0) ([] : List Int) m _ _ _ (fun k => w2.heap.size ≤ k) (fun _ => False) rfl rfl ?aO ?aR (fun _ _ h => h) (fun _ h => h.elim) ?aF ?aB ?aS ?aL ?_; (case aR => exact HM1.out); (case aB => exact Below.refl _ _); (case aF => exact (fun k hk => hk)); (case aO => exact (Kd.R_nil _ _ _ _ _)); (case aS => exact (Nat.le_refl _)); (case aL => simp only [List.length_nil]; omega); intro v1 w6 ho hb hg hat; rw [List.nil_append] at ho; have x1 : w6.cell? ⟨g, 1, none⟩ = some (.int .i64 (p : Int)) := pw_cell_below hb y1; have x2 : w6.frozen? ⟨g, 1, none⟩ = false := (hb.frozen (p := ⟨g, 1, none⟩) hgl2).trans z1; clear y1 z1; have HB := Aside0.mk hb; have HO := Aside0.mk ho; clear ho hb hg hat))
  go_ret
  have h2 := (HRD.out.below HB.out).set1 ((p : Int) + (n : Int))
  have h3 := Kd.R_far (p := ⟨g, 1, none⟩) HO.out (fun k (hk : w2.heap.size ≤ k) => by simp only; omega) (.int .i64 ((p : Int) + (n : Int)))
  refine ⟨_, rfl, Kd.R_mono (Kd.R_lower h3 (by rw [HS.out]; exact Nat.le_refl _)) (fun _ _ => trivial), h2, ?_⟩
  refine MReader.grown_trans HG1.out (MReader.grown_trans (w1 := w6) ⟨HB.out.os, HB.out.tape, HB.out.output, HB.out.size, fun k hk _ => HB.out.block k hk⟩ (MReader.setCell_grown _ _ _ _))
/-! Both readers side by side: the bytes l, a place p in them, s: are they short? n: how many are asked for. -/
def lf (l : List Int) (p : Nat) (s : Bool) : List Int := if s = true then [] else l.drop p
def good (l : List Int) (p : Nat) (s : Bool) (n : Int) : Bool := !s && decide (0 ≤ n) && decide ((p : Int) + n ≤ (l.length : Int))
def got (l : List Int) (p : Nat) (s : Bool) (n : Int) : List Int := if good l p s n = true then (l.drop p).take n.toNat else []
def np (l : List Int) (p : Nat) (s : Bool) (n : Int) : Nat := if good l p s n = true then p + n.toNat else p
def good8 (l : List Int) (p : Nat) (s : Bool) (n : Int) : Bool := good l p s n && decide (n ≤ 8)
def val (l : List Int) (p : Nat) (s : Bool) (n : Int) : Int := if good8 l p s n = true then MBe.num ((l.drop p).take n.toNat) else 0
def np8 (l : List Int) (p : Nat) (s : Bool) (n : Int) : Nat := if good8 l p s n = true then p + n.toNat else p
theorem lf_length {l : List Int} {p : Nat} (h : p ≤ l.length) (s : Bool) : (lf l p s).length = if s = true then 0 else l.length - p := by
  unfold lf; split <;> simp
theorem np_le {l : List Int} {p : Nat} (h : p ≤ l.length) (s : Bool) (n : Int) : np l p s n ≤ l.length := by
  unfold np good; split
  · rename_i q; simp at q; omega
  · exact h
theorem np8_le {l : List Int} {p : Nat} (h : p ≤ l.length) (s : Bool) (n : Int) : np8 l p s n ≤ l.length := by
  unfold np8 good8 good; split
  · rename_i q; simp at q; omega
  · exact h
theorem got_length (l : List Int) (p : Nat) (s : Bool) (n : Int) : (got l p s n).length ≤ l.length := by
  unfold got; split
  · rw [List.length_take, List.length_drop]; omega
  · simp
theorem obytes (g b : Nat) (l : List Int) (p : Nat) (s : Bool) (n : Int) (w : World) (h : MReader.Rdr 52 w g b (lf l p s) s) (hp : p ≤ l.length) (hl : l.length ≤ 140737488355200) :
    Calls Try.prog 23 #[.pointer (some ⟨g, 0, none⟩), .int .i64 n] w fun e w' => ∃ v, e = .returned v ∧ Kd.R (Kd.int .u8) 5 w' w.heap.size (fun k => k ≠ g ∧ k ≠ b) v (got l p s n) ∧ MReader.Rdr 52 w' g b (lf l (np l p s n) (!good l p s n)) (!good l p s n) ∧ w.grownBy w' (some g) := by
  by_cases hg : good l p s n = true
  · have hs : s = false := by unfold good at hg; cases s <;> simp_all
    subst hs
    have h2 : 0 ≤ n ∧ (p : Int) + n ≤ (l.length : Int) := by unfold good at hg; simpa using hg
    have e1 : got l p false n = (l.drop p).take n.toNat := if_pos hg
    have e2 : np l p false n = p + n.toNat := if_pos hg
    rw [e1, e2, hg]
    have e3 : lf l p false = l.drop p := if_neg (by decide)
    rw [e3] at h
    have e4 : lf l (p + n.toNat) (!true) = (l.drop p).drop n.toNat := by rw [List.drop_drop]; exact if_neg (by decide)
    rw [e4]
    exact octet_Reader_Bytes.ok g b (l.drop p) n w h h2.1 (by rw [List.length_drop]; omega) (by rw [List.length_drop]; omega)
  · have hg' : good l p s n = false := by simpa using hg
    have e1 : got l p s n = [] := if_neg hg
    rw [e1, hg']
    have e4 : lf l (np l p s n) (!false) = [] := if_pos rfl
    rw [e4]
    have hbad : s = true ∨ n < 0 ∨ ((lf l p s).length : Int) < n := by
      cases s with
      | true => exact .inl rfl
      | false =>
        right
        unfold good at hg'
        rw [lf_length hp, if_neg (by decide)]
        simp at hg'
        by_cases h0 : n < 0
        · exact .inl h0
        · right; have := hg' (by omega); omega
    refine (octet_Reader_Bytes.bad g b _ s n w h hbad).mono fun e w' ⟨he, hr, hgr⟩ => ⟨_, he, Kd.R_nil _ _ _ _ _, hr, hgr⟩
theorem rbytes (g : Nat) (B : Option Nat) (l : List Int) (p : Nat) (s : Bool) (n : Int) (w : World) (h : RRd 47 w g B l (p : Int) s) (hp : p ≤ l.length) (hl : l.length ≤ 140737488355200) :
    Calls Try.prog 24 #[.pointer (some ⟨g, 0, none⟩), .int .i64 n] w fun e w' => ∃ v, e = .returned v ∧ Kd.R (Kd.int .u8) 5 w' w.heap.size (fun _ => True) v (got l p s n) ∧ RRd 47 w' g B l (np l p s n : Nat) (!good l p s n) ∧ w.grownBy w' (some g) := by
  by_cases hg : good l p s n = true
  · have hs : s = false := by unfold good at hg; cases s <;> simp_all
    subst hs
    have h2 : 0 ≤ n ∧ (p : Int) + n ≤ (l.length : Int) := by unfold good at hg; simpa using hg
    obtain ⟨m, rfl⟩ := Int.eq_ofNat_of_zero_le h2.1
    have e1 : got l p false (m : Int) = (l.drop p).take m := if_pos hg
    have e2 : np l p false (m : Int) = p + m := if_pos hg
    rw [e1, e2, hg]
    exact rbytes_ok g B l p m w h (by omega) hl
  · have hg' : good l p s n = false := by simpa using hg
    have e1 : got l p s n = [] := if_neg hg
    have e2 : np l p s n = p := if_neg hg
    rw [e1, e2, hg']
    have hbad : s = true ∨ n < 0 ∨ (l.length : Int) - (p : Int) < n := by
      cases s with
      | true => exact .inl rfl
      | false =>
        right
        unfold good at hg'
        simp at hg'
        by_cases h0 : n < 0
        · exact .inl h0
        · right; have := hg' (by omega); omega
    refine (rbytes_bad g B l (p : Int) s n w h (by omega) (by omega) hl hbad).mono fun e w' ⟨he, hr, hgr⟩ => ⟨_, he, Kd.R_nil _ _ _ _ _, hr, hgr⟩
theorem fits_iff (l : List Int) (p : Nat) (n : Int) : Pure.fits (l.drop p) 0 n ↔ (0 ≤ n ∧ n ≤ 8 ∧ (n : Int) ≤ ((l.length - p : Nat) : Int)) := by unfold Pure.fits; rw [List.length_drop]; omega
theorem num_both {l : List Int} (hb : MTally.Bytes l) (hl : l.length ≤ 140737488355200) {p : Nat} (hp : p ≤ l.length) (s : Bool) {n : Int} (hn : -9223372036854775808 ≤ n ∧ n ≤ 9223372036854775807) :
    ∃ k a b ok ok', octet_Get.f k (lf l p s) 0 n = some (a, ok) ∧ crosswayref01_Get.f k l (p : Int) n = some (b, ok') ∧ (good8 l p s n = true → a = val l p s n ∧ b = val l p s n ∧ ok = true ∧ ok' = true) ∧ (good8 l p s n = false → (s = true ∨ ok = false) ∧ (s = true ∨ ok' = false)) := by
  have hbl : MTally.Bytes (lf l p s) := by unfold lf; split; exact MTally.Bytes.nil; exact hb.drop _
  have hll : (lf l p s).length ≤ 140737488355200 := by rw [lf_length hp]; split <;> omega
  obtain ⟨k1, h1⟩ := Pure.get_ev (a := 0) hbl hll (by omega) hn
  obtain ⟨k2, h2⟩ := Pure.rget_ev (a := (p : Int)) hb hl (by omega) hn
  refine ⟨k1 + k2, (Pure.get (lf l p s) 0 n).1, (Pure.get l (p : Int) n).1, (Pure.get (lf l p s) 0 n).2, (Pure.get l (p : Int) n).2, h1 _ (by omega), h2 _ (by omega), ?_, ?_⟩
  · intro hg
    have hs : s = false := by unfold good8 good at hg; cases s <;> simp_all
    subst hs
    have h3 : 0 ≤ n ∧ (p : Int) + n ≤ (l.length : Int) ∧ n ≤ 8 := by unfold good8 good at hg; simp at hg; omega
    have e3 : lf l p false = l.drop p := if_neg (by decide)
    have f1 : Pure.fits (lf l p false) 0 n := by rw [e3, fits_iff]; omega
    have f2 : Pure.fits l (p : Int) n := by unfold Pure.fits; omega
    have ev : val l p false n = MBe.num ((l.drop p).take n.toNat) := if_pos hg
    have g1 : Pure.get (lf l p false) 0 n = (MBe.num (Pure.slice_ (lf l p false) 0 n), true) := if_pos f1
    have g2 : Pure.get l (p : Int) n = (MBe.num (Pure.slice_ l (p : Int) n), true) := if_pos f2
    rw [g1, g2, ev, e3]
    unfold Pure.slice_
    simp
  · intro hg
    cases s with
    | true => exact ⟨.inl rfl, .inl rfl⟩
    | false =>
      have h3 : ¬ (0 ≤ n ∧ (p : Int) + n ≤ (l.length : Int) ∧ n ≤ 8) := by unfold good8 good at hg; simp at hg; omega
      have e3 : lf l p false = l.drop p := if_neg (by decide)
      have f1 : ¬ Pure.fits (lf l p false) 0 n := by rw [e3, fits_iff]; omega
      have f2 : ¬ Pure.fits l (p : Int) n := by unfold Pure.fits; omega
      have g1 : Pure.get (lf l p false) 0 n = (0, false) := if_neg f1
      have g2 : Pure.get l (p : Int) n = (0, false) := if_neg f2
      rw [g1, g2]
      exact ⟨.inr rfl, .inr rfl⟩
theorem onum (k : Nat) (g b : Nat) (l : List Int) (p : Nat) (s : Bool) (n a : Int) (ok : Bool) (w : World) (h : MReader.Rdr 52 w g b (lf l p s) s) (hp : p ≤ l.length) (hk : octet_Get.f k (lf l p s) 0 n = some (a, ok)) (h1 : good8 l p s n = true → a = val l p s n ∧ ok = true) (h2 : good8 l p s n = false → s = true ∨ ok = false) :
    Calls Try.prog 18 #[.pointer (some ⟨g, 0, none⟩), .int .i64 n] w fun e w' => e = .returned (.int .u64 (val l p s n)) ∧ MReader.Rdr 52 w' g b (lf l (np8 l p s n) (!good8 l p s n)) (!good8 l p s n) ∧ w.grownBy w' (some g) := by
  by_cases hg : good8 l p s n = true
  · have hs : s = false := by unfold good8 good at hg; cases s <;> simp_all
    subst hs
    obtain ⟨rfl, rfl⟩ := h1 hg
    have h3 : 0 ≤ n ∧ (p : Int) + n ≤ (l.length : Int) ∧ n ≤ 8 := by unfold good8 good at hg; simp at hg; omega
    have e2 : np8 l p false n = p + n.toNat := if_pos hg
    have e4 : lf l (p + n.toNat) (!true) = (lf l p false).drop n.toNat := by rw [show lf l p false = l.drop p from if_neg (by decide), List.drop_drop]; exact if_neg (by decide)
    rw [e2, hg, e4]
    exact octet_Reader_Num.ok k g b _ n _ w h hk h3.1 (by rw [lf_length hp, if_neg (by decide)]; omega)
  · have hg' : good8 l p s n = false := by simpa using hg
    have ev : val l p s n = 0 := if_neg hg
    have e4 : lf l (np8 l p s n) (!false) = [] := if_pos rfl
    rw [ev, hg', e4]
    exact octet_Reader_Num.bad k g b _ s n a ok w h hk (h2 hg')
theorem rnum (k : Nat) (g : Nat) (B : Option Nat) (l : List Int) (p : Nat) (s : Bool) (n a : Int) (ok : Bool) (w : World) (h : RRd 47 w g B l (p : Int) s) (hl : l.length ≤ 140737488355200) (hk : crosswayref01_Get.f k l (p : Int) n = some (a, ok)) (h1 : good8 l p s n = true → a = val l p s n ∧ ok = true) (h2 : good8 l p s n = false → s = true ∨ ok = false) :
    Calls Try.prog 25 #[.pointer (some ⟨g, 0, none⟩), .int .i64 n] w fun e w' => e = .returned (.int .u64 (val l p s n)) ∧ RRd 47 w' g B l (np8 l p s n : Nat) (!good8 l p s n) ∧ w.grownBy w' (some g) := by
  by_cases hg : good8 l p s n = true
  · have hs : s = false := by unfold good8 good at hg; cases s <;> simp_all
    subst hs
    obtain ⟨rfl, rfl⟩ := h1 hg
    have h3 : 0 ≤ n ∧ (p : Int) + n ≤ (l.length : Int) ∧ n ≤ 8 := by unfold good8 good at hg; simp at hg; omega
    have e2 : ((np8 l p false n : Nat) : Int) = (p : Int) + n := by rw [show np8 l p false n = p + n.toNat from if_pos hg]; omega
    rw [e2, hg]
    exact rnum_ok k g B l (p : Int) n _ w h hk (by omega) h3.1 h3.2.1 hl
  · have hg' : good8 l p s n = false := by simpa using hg
    have ev : val l p s n = 0 := if_neg hg
    have e2 : np8 l p s n = p := if_neg hg
    rw [ev, hg', e2]
    exact rnum_bad k g B l (p : Int) s n a ok w h hk (h2 hg')
theorem rleft_any (g : Nat) (B : Option Nat) (l : List Int) (p : Nat) (s : Bool) (w : World) (h : RRd 47 w g B l (p : Int) s) (hp : p ≤ l.length) (hl : l.length ≤ 140737488355200) :
    Calls Try.prog 26 #[.pointer (some ⟨g, 0, none⟩)] w fun e w' => e = .returned (.int .i64 ((lf l p s).length : Int)) ∧ Drawn0 w w' := by
  rw [lf_length hp]
  cases s with
  | true => exact rleft_bad g B l p w h
  | false =>
    rw [if_neg (by decide), show (((l.length - p : Nat)) : Int) = (l.length : Int) - (p : Int) by omega]
    exact rleft g B l p w h (by omega) (by omega) hl
end Go.Proofs.Ytbfchmfanbeocaa.WOctetReads
