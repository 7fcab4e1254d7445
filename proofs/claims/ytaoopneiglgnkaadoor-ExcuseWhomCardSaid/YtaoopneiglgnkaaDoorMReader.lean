/-
  A reader of bytes as it lies in memory: a block of two cells, the bytes that are left in another block. Conditions: those of each theorem.
-/
import Derived.Test.YtaoopneiglgnkaaDoorWMore
set_option linter.unusedVariables false
set_option linter.unusedSimpArgs false
namespace Go.Proofs.YtaoopneiglgnkaaDoor.MReader
open Go.RowKit Go.Proofs.YtaoopneiglgnkaaDoorW.PrintWords Go.Proofs.YtaoopneiglgnkaaDoorW.PrintLast Go.Proofs.YtaoopneiglgnkaaDoorW.PrintMore
/-- Block g is a reader (type T) that has the bytes l left, which lie in block b; s: is it short? -/
structure Rdr (T : Nat) (w : World) (g b : Nat) (l : List Int) (s : Bool) : Prop where mk ::
  (out : ∃ A c, w.heap[g]? = some (.cells #[.slice A l.length c, .bool s] T (0, 0)) ∧ l.length ≤ c ∧ (Kd.int .u8).C w A l.length l ∧ (A = none → c = 0) ∧ ∀ ad, A = some ad → ad.block = b)
  (lt : b < w.heap.size)
  (ne : b ≠ g)
section
variable {T g b : Nat} {w w1 W : World} {l : List Int} {s : Bool} {A : Option Addr} {n : Nat}
/-- A row of numbers all of whose cells lie in one block stays, if that block does. -/
theorem C_block {k : IntKind} (h : (Kd.int k).C w A n l) (hb : ∀ ad, A = some ad → ad.block = b) (he : w1.heap[b]? = w.heap[b]?) : (Kd.int k).C w1 A n l := by
  obtain ⟨h1, h2, h3⟩ := h
  refine ⟨h1, h2, fun hn => ?_⟩
  obtain ⟨ad, rfl, hc⟩ := h3 hn
  have hbk := hb ad rfl
  refine ⟨ad, rfl, fun j p hj => ?_⟩
  obtain ⟨c, hl, hK, hcell⟩ := hc j p hj
  refine ⟨c, hl, hK, fun i u hu => ?_⟩
  have h4 := hcell i u hu
  have hblk : ∀ q : Nat, (ad.add q).block = b := fun q => by rw [← hbk]; exact add_block _ _
  have e1 : w1.heap[(ad.add (j * (Kd.int k).sz + i)).block]? = w.heap[(ad.add (j * (Kd.int k).sz + i)).block]? := by rw [hblk, he]
  simpa [World.cell?, e1] using h4
theorem Rdr.keep (h : Rdr T w g b l s) (hg : w1.heap[g]? = w.heap[g]?) (hb : w1.heap[b]? = w.heap[b]?) (hs : w.heap.size ≤ w1.heap.size) : Rdr T w1 g b l s := by
  obtain ⟨⟨A, c, h1, h2, h3, h4⟩, h5, h6⟩ := h
  exact ⟨⟨A, c, hg.trans h1, h2, C_block h3 h4.2 hb, h4⟩, by omega, h6⟩
theorem Rdr.glt (h : Rdr T w g b l s) : g < w.heap.size := by
  obtain ⟨⟨A, c, h1, _⟩, _⟩ := h
  exact (Array.getElem?_eq_some_iff.1 h1).1
theorem Rdr.below (h : Rdr T w g b l s) (hb : Below w.heap.size w w1) : Rdr T w1 g b l s := h.keep (hb.block _ h.glt) (hb.block _ h.lt) hb.size
theorem Rdr.drewN (h : Rdr T w g b l s) (n : Nat) : Rdr T (w.drewN n) g b l s := h.keep rfl rfl (Nat.le_refl _)
theorem Rdr.grown (h : Rdr T w g b l s) {row : Option Nat} (hg : w.grownBy w1 row) (n1 : some g ≠ row) (n2 : some b ≠ row) : Rdr T w1 g b l s := h.keep (hg.block _ h.glt n1) (hg.block _ h.lt n2) hg.size
theorem below_grown {B : Nat} {w0 : World} (h : Below B w0 w) (hg : w.grownBy w1 (some g)) (hB : B ≤ g) (hs : B ≤ w.heap.size) : Below B w0 w1 := h.grown hg hs (fun k hk => by injection hk with hk; omega)
/-- The cells of a reader. -/
theorem Rdr.cells (h : Rdr T w g b l s) : ∃ A c, w.cell? ⟨g, 0, none⟩ = some (.slice A l.length c) ∧ w.cell? ⟨g, 1, none⟩ = some (.bool s) ∧ w.frozen? ⟨g, 0, none⟩ = false ∧ w.frozen? ⟨g, 1, none⟩ = false ∧ l.length ≤ c ∧ (Kd.int .u8).C w A l.length l ∧ (A = none → c = 0) ∧ ∀ ad, A = some ad → ad.block = b := by
  obtain ⟨⟨A, c, h1, h2, h3, h4⟩, h5, h6⟩ := h
  exact ⟨A, c, by simp [World.cell?, h1], by simp [World.cell?, h1], by simp [World.frozen?, h1], by simp [World.frozen?, h1], h2, h3, h4⟩
theorem setCell_heap {cells : Array Value} {T g j : Nat} {w : World} {u : Value} (h : w.heap[g]? = some (.cells cells T (0, 0))) : (w.setCell ⟨g, j, none⟩ u).heap[g]? = some (.cells (cells.setIfInBounds j u) T (0, 0)) := by
  simp [World.setCell, Array.getElem?_modify, h]
theorem setCell_grown (w : World) (g j : Nat) (u : Value) : w.grownBy (w.setCell ⟨g, j, none⟩ u) (some g) :=
  ⟨rfl, rfl, rfl, by simp [World.setCell], fun k hk hne => Below.heap_setCell w ⟨g, j, none⟩ u k (by intro e; exact hne (by rw [e]))⟩
theorem grown_trans {w w1 w2 : World} {r : Option Nat} (h : w.grownBy w1 r) (h2 : w1.grownBy w2 r) : w.grownBy w2 r := World.grownBy.trans h h2
theorem grown_drewN {w w1 : World} {r : Option Nat} (h : w.grownBy w1 r) (n : Nat) : w.grownBy (w1.drewN n) r := ⟨h.os, h.tape, h.output, h.size, h.block⟩
theorem drewN_grown {w w1 : World} {r : Option Nat} {n : Nat} (h : (w.drewN n).grownBy w1 r) : w.grownBy w1 r := ⟨h.os, h.tape, h.output, h.size, h.block⟩
end
end Go.Proofs.YtaoopneiglgnkaaDoor.MReader
