/-
  The document's epoch as it lies in memory: one block of three cells, and three rows. Conditions: those of each theorem.
-/
import Derived.Test.YtmepodmcmpndoaaMEpoch
import Derived.Test.YtmepodmcmpndoaaPureEpochRef
set_option linter.unusedVariables false
set_option linter.unusedSimpArgs false
namespace Go.Proofs.Ytmepodmcmpndoaa.EpM
open Go.RowKit Go.Proofs.YtmepodmcmpndoaaW.PrintWords Go.Proofs.Ytmepodmcmpndoaa.Ep
/-- A row of truths of one's own. -/
abbrev RowB (w : World) (B b n c : Nat) (xs : List Bool) : Prop := w.ownsRow B 4 1 (.slice (some ⟨b, 0, none⟩) n c) n (bools xs)
section
variable {w w1 : World} {B B' b n c : Nat} {xs : List Bool}
theorem RowB.lt (h : RowB w B b n c xs) : b < w.heap.size := own_lt h b rfl
theorem RowB.base (h : RowB w B b n c xs) : B ≤ b := own_base h b rfl
theorem RowB.len (h : RowB w B b n c xs) : xs.length = n := by have := h.1; simpa [bools] using this
theorem RowB.reb (h : RowB w B b n c xs) (hb : B' ≤ b) : RowB w B' b n c xs := by
  obtain ⟨h1, h2⟩ := h
  refine ⟨h1, ?_⟩
  rcases h2 with ⟨e, _⟩ | ⟨g, cap, cur, e, _, h3⟩
  · cases e
  · have : b = g := by injection e with e; injection e with e; injection e with e
    subst this
    exact .inr ⟨b, cap, cur, e, hb, h3⟩
theorem RowB.set (h : RowB w B b n c xs) (i : Nat) (x : Bool) : RowB (w.setCell ⟨b, i, none⟩ (.bool x)) B b n c (xs.set i x) := by
  have hs := (h.stored i (.bool x)).1
  have he : (bools xs).set i (.bool x) = bools (xs.set i x) := by simp [bools, List.map_set]
  rwa [he] at hs
theorem RowB.cell (h : RowB w B b n c xs) (i : Nat) (hi : i < n) : w.cell? ⟨b, i, none⟩ = some (.bool (xs.getD i false)) ∧ w.frozen? ⟨b, i, none⟩ = false := by
  have hl := h.len
  refine ⟨?_, h.frozenAt i⟩
  rw [h.cellAt i (by omega)]
  simp [bools, List.getD_eq_getElem?_getD, List.getElem?_eq_getElem (show i < xs.length by omega)]
theorem RowB.le (h : RowB w B b n c xs) : n ≤ c ∧ c ≤ 9223372036854775807 := by
  rcases h.2 with ⟨e, _⟩ | ⟨g, cap, cur, e, _, _, h1, h2, _⟩
  · cases e
  · injection e with _ _ e3
    subst e3
    exact ⟨h1, by simpa [maxLen] using h2⟩
end
/-- Block g is the document's epoch; a, b, i: where its rows lie. -/
structure RMem (w : World) (B g a b i : Nat) (H : List Int) (G : List Bool) (rd : List Int) : Prop where mk ::
  (blk : ∃ ca cb ci, w.heap[g]? = some (.cells #[.slice (some ⟨a, 0, none⟩) H.length ca, .slice (some ⟨b, 0, none⟩) G.length cb, .slice (some ⟨i, 0, none⟩) rd.length ci] 59 (0, 0)) ∧
    Row w B a H.length ca H ∧ RowB w B b G.length cb G ∧ Row w B i rd.length ci rd)
  (bg : B ≤ g)
  (ne : a ≠ g ∧ b ≠ g ∧ i ≠ g ∧ a ≠ b ∧ a ≠ i ∧ b ≠ i)
section
variable {w w1 : World} {B B' g a b i : Nat} {H : List Int} {G : List Bool} {rd : List Int}
theorem RMem.glt (h : RMem w B g a b i H G rd) : g < w.heap.size := by
  obtain ⟨⟨_, _, _, h1, _⟩, _⟩ := h
  exact (Array.getElem?_eq_some_iff.1 h1).1
theorem RMem.lt (h : RMem w B g a b i H G rd) : ∀ k, Its g a b i k → B ≤ k ∧ k < w.heap.size := by
  have hg := h.glt
  obtain ⟨⟨_, _, _, h1, h2, h3, h4⟩, h5, _⟩ := h
  rintro k (rfl | rfl | rfl | rfl)
  · exact ⟨h5, hg⟩
  · exact ⟨h2.base, h2.lt⟩
  · exact ⟨h3.base, h3.lt⟩
  · exact ⟨h4.base, h4.lt⟩
theorem own_ob {v : Value} {b k n c : Nat} (h : (Value.slice (some ⟨b, 0, none⟩) n c).ownBlock = some k) : b = k := by simpa [Value.ownBlock] using h
theorem RMem.keep {X : Nat → Prop} (h : RMem w B g a b i H G rd) (f : Fr X w w1) (hX : ∀ k, X k → ¬ Its g a b i k) : RMem w1 B g a b i H G rd := by
  have hg := h.glt
  obtain ⟨⟨ca, cr, cs, h1, h2, h3, h4⟩, h5, h6⟩ := h
  exact ⟨⟨ca, cr, cs, (f.block g hg (fun x => hX g x (.inl rfl))).trans h1, f.own h2 (fun k e x => hX k x (.inr (.inl (own_ob (v := .slice none 0 0) e).symm))), f.own h3 (fun k e x => hX k x (.inr (.inr (.inl (own_ob (v := .slice none 0 0) e).symm)))), f.own h4 (fun k e x => hX k x (.inr (.inr (.inr (own_ob (v := .slice none 0 0) e).symm))))⟩, h5, h6⟩
theorem RMem.keepBelow (h : RMem w B g a b i H G rd) (hb : Below w.heap.size w w1) : RMem w1 B g a b i H G rd := h.keep (X := fun _ => False) (Fr.of_below hb) (fun _ x => x.elim)
theorem RMem.drewN (h : RMem w B g a b i H G rd) (n : Nat) : RMem (w.drewN n) B g a b i H G rd := h.keep (X := fun _ => False) (Fr.drewN w n) (fun _ x => x.elim)
theorem RMem.lower (h : RMem w B g a b i H G rd) (hB : B' ≤ B) : RMem w B' g a b i H G rd := by
  obtain ⟨⟨ca, cr, cs, h1, h2, h3, h4⟩, h5, h6⟩ := h
  exact ⟨⟨ca, cr, cs, h1, h2.reb (Nat.le_trans hB h2.base), h3.reb (Nat.le_trans hB h3.base), h4.reb (Nat.le_trans hB h4.base)⟩, Nat.le_trans hB h5, h6⟩
theorem otherV {b b' n c j : Nat} {e : TypeId} {xs : List Value} {u : Value} (h : w.ownsRow B e 1 (.slice (some ⟨b, 0, none⟩) n c) n xs) (hne : b ≠ b') : (w.setCell ⟨b', j, none⟩ u).ownsRow B e 1 (.slice (some ⟨b, 0, none⟩) n c) n xs :=
  (Fr.set w b' j u).own h (fun k e x => by obtain rfl : b = k := (by simpa [Value.ownBlock] using e); exact hne x)
theorem RMem.setG (h : RMem w B g a b i H G rd) (k : Nat) (x : Bool) : RMem (w.setCell ⟨b, k, none⟩ (.bool x)) B g a b i H (G.set k x) rd := by
  obtain ⟨⟨ca, cr, cs, h1, h2, h3, h4⟩, h5, h6⟩ := h
  refine ⟨⟨ca, cr, cs, ?_, otherV h2 h6.2.2.2.1, ?_, otherV h4 (Ne.symm h6.2.2.2.2.2)⟩, h5, h6⟩
  · have := (Below.heap_setCell w ⟨b, k, none⟩ (.bool x) g (fun e => h6.2.1 e.symm)).trans h1
    simpa using this
  · have := h3.set k x
    simpa using this
theorem RMem.setI (h : RMem w B g a b i H G rd) (k : Nat) (x : Int) : RMem (w.setCell ⟨i, k, none⟩ (.int .i64 x)) B g a b i H G (rd.set k x) := by
  obtain ⟨⟨ca, cr, cs, h1, h2, h3, h4⟩, h5, h6⟩ := h
  refine ⟨⟨ca, cr, cs, ?_, otherV h2 h6.2.2.2.2.1, otherV h3 h6.2.2.2.2.2, ?_⟩, h5, h6⟩
  · have := (Below.heap_setCell w ⟨i, k, none⟩ (.int .i64 x) g (fun e => h6.2.2.1 e.symm)).trans h1
    simpa using this
  · have := h4.set k x
    simpa using this
theorem RMem.growH (h : RMem w B g a b i H G rd) {a' c' : Nat} {xs : List Int} (hg : w.grownBy w1 (some a)) (hr : Row w1 B a' xs.length c' xs) (hat : a' = a ∨ w.heap.size ≤ a') :
    RMem (w1.setCell ⟨g, 0, none⟩ (.slice (some ⟨a', 0, none⟩) xs.length c')) B g a' b i xs G rd := by
  have hgl := h.glt
  have hrl := (h.lt b (.inr (.inr (.inl rfl)))).2
  have hsl := (h.lt i (.inr (.inr (.inr rfl)))).2
  obtain ⟨⟨ca, cr, cs, h1, h2, h3, h4⟩, h5, h6⟩ := h
  have n1 : a' ≠ g := by rcases hat with e | e <;> omega
  have n2 : a' ≠ b := by rcases hat with e | e <;> omega
  have n3 : a' ≠ i := by rcases hat with e | e <;> omega
  have k3 : RowB w1 B b G.length cr G := own_other h3 hg (.inr (by simp [Value.ownBlock]; omega))
  have k4 : Row w1 B i rd.length cs rd := own_other h4 hg (.inr (by simp [Value.ownBlock]; omega))
  have k1 := (hg.block g hgl (by simp; omega)).trans h1
  exact ⟨⟨c', cr, cs, setCell_heap k1, otherV hr n1, otherV k3 h6.2.1, otherV k4 h6.2.2.1⟩, h5, n1, h6.2.1, h6.2.2.1, n2, n3, h6.2.2.2.2.2⟩
theorem RMem.growG (h : RMem w B g a b i H G rd) {b' c' : Nat} {xs : List Bool} (hg : w.grownBy w1 (some b)) (hr : RowB w1 B b' xs.length c' xs) (hat : b' = b ∨ w.heap.size ≤ b') :
    RMem (w1.setCell ⟨g, 1, none⟩ (.slice (some ⟨b', 0, none⟩) xs.length c')) B g a b' i H xs rd := by
  have hgl := h.glt
  have hrl := (h.lt a (.inr (.inl rfl))).2
  have hsl := (h.lt i (.inr (.inr (.inr rfl)))).2
  obtain ⟨⟨ca, cr, cs, h1, h2, h3, h4⟩, h5, h6⟩ := h
  have n1 : b' ≠ g := by rcases hat with e | e <;> omega
  have n2 : a ≠ b' := by rcases hat with e | e <;> omega
  have n3 : b' ≠ i := by rcases hat with e | e <;> omega
  have k2 : Row w1 B a H.length ca H := own_other h2 hg (.inr (by simp [Value.ownBlock]; omega))
  have k4 : Row w1 B i rd.length cs rd := own_other h4 hg (.inr (by simp [Value.ownBlock]; omega))
  have k1 := (hg.block g hgl (by simp; omega)).trans h1
  exact ⟨⟨ca, c', cs, setCell_heap k1, otherV k2 h6.1, otherV hr n1, otherV k4 h6.2.2.1⟩, h5, h6.1, n1, h6.2.2.1, n2, h6.2.2.2.2.1, n3⟩
theorem RMem.cells (h : RMem w B g a b i H G rd) : ∃ ca cb ci, (w.cell? ⟨g, 0, none⟩ = some (.slice (some ⟨a, 0, none⟩) H.length ca) ∧ w.cell? ⟨g, 1, none⟩ = some (.slice (some ⟨b, 0, none⟩) G.length cb) ∧ w.cell? ⟨g, 2, none⟩ = some (.slice (some ⟨i, 0, none⟩) rd.length ci)) ∧
    (w.frozen? ⟨g, 0, none⟩ = false ∧ w.frozen? ⟨g, 1, none⟩ = false ∧ w.frozen? ⟨g, 2, none⟩ = false) ∧ Row w B a H.length ca H ∧ RowB w B b G.length cb G ∧ Row w B i rd.length ci rd := by
  obtain ⟨⟨ca, cr, cs, h1, h2, h3, h4⟩, h5, h6⟩ := h
  exact ⟨ca, cr, cs, ⟨by simp [World.cell?, h1], by simp [World.cell?, h1], by simp [World.cell?, h1]⟩, ⟨by simp [World.frozen?, h1], by simp [World.frozen?, h1], by simp [World.frozen?, h1]⟩, h2, h3, h4⟩
end
end Go.Proofs.Ytmepodmcmpndoaa.EpM
