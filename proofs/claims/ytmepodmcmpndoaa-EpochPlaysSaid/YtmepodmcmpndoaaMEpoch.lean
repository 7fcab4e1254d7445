/-
  An epoch as it lies in memory: one block of six cells, and three rows of numbers. Conditions: those of each theorem.
-/
import Derived.Test.YtmepodmcmpndoaaWWords
import Derived.Test.YtmepodmcmpndoaaMLock13
import Derived.Test.YtmepodmcmpndoaaPureEpoch
set_option linter.unusedVariables false
set_option linter.unusedSimpArgs false
namespace Go.Proofs.Ytmepodmcmpndoaa.EpM
open Go.RowKit Go.Proofs.YtmepodmcmpndoaaW.PrintWords Go.Proofs.Ytmepodmcmpndoaa.Ep

/-- Nothing that was there has changed but the blocks X. -/
structure Fr (X : Nat → Prop) (w w' : World) : Prop where mk ::
  os : w'.os = w.os
  tape : w'.tape = w.tape
  output : w'.output = w.output
  size : w.heap.size ≤ w'.heap.size
  block : ∀ k, k < w.heap.size → ¬ X k → w'.heap[k]? = w.heap[k]?
section
variable {X Y : Nat → Prop} {w w1 w2 : World} {B : Nat}
theorem Fr.refl (X : Nat → Prop) (w : World) : Fr X w w := ⟨rfl, rfl, rfl, Nat.le_refl _, fun _ _ _ => rfl⟩
theorem Fr.trans (h : Fr X w w1) (h2 : Fr Y w1 w2) (hY : ∀ k, Y k → X k ∨ w.heap.size ≤ k) : Fr X w w2 :=
  ⟨h2.os.trans h.os, h2.tape.trans h.tape, h2.output.trans h.output, Nat.le_trans h.size h2.size, fun k hk hn =>
    (h2.block k (Nat.lt_of_lt_of_le hk h.size) (fun hy => by rcases hY k hy with q | q; exact hn q; omega)).trans (h.block k hk hn)⟩
theorem Fr.of_below (h : Below w.heap.size w w1) : Fr X w w1 := ⟨h.os, h.tape, h.output, h.size, fun k hk _ => h.block k hk⟩
theorem Fr.of_grown {row : Option Nat} (h : w.grownBy w1 row) (hX : ∀ k, row = some k → X k) : Fr X w w1 :=
  ⟨h.os, h.tape, h.output, h.size, fun k hk hn => h.block k hk (fun e => hn (hX k e.symm))⟩
theorem Fr.grown1 {g : Nat} (h : Fr X w w1) (hX : ∀ k, X k → k = g) : w.grownBy w1 (some g) :=
  ⟨h.os, h.tape, h.output, h.size, fun k hk hn => h.block k hk (fun e => hn (congrArg some (hX k e)))⟩
theorem Fr.set (w : World) (g j : Nat) (u : Value) : Fr (fun k => k = g) w (w.setCell ⟨g, j, none⟩ u) :=
  ⟨rfl, rfl, rfl, by simp [World.setCell], fun k hk hn => Below.heap_setCell w ⟨g, j, none⟩ u k (fun e => hn e)⟩
theorem Fr.drewN (w : World) (n : Nat) : Fr X w (w.drewN n) := ⟨rfl, rfl, rfl, Nat.le_refl _, fun _ _ _ => rfl⟩
theorem Fr.below (h : Fr X w1 w2) {w0 : World} (hb : Below B w0 w1) (hB : B ≤ w1.heap.size) (hX : ∀ k, X k → B ≤ k) : Below B w0 w2 :=
  ⟨h.os.trans hb.os, h.tape.trans hb.tape, h.output.trans hb.output, Nat.le_trans hb.size h.size, fun k hk => (h.block k (by omega) (fun hx => by have := hX k hx; omega)).trans (hb.block k hk)⟩
theorem Fr.own {e n : Nat} {v : Value} {xs : List Value} {b : Nat} (h : Fr X w w1) (ho : w.ownsRow b e 1 v n xs) (hX : ∀ k, v.ownBlock = some k → ¬ X k) : w1.ownsRow b e 1 v n xs := by
  obtain ⟨h1, h2⟩ := ho
  refine ⟨h1, ?_⟩
  rcases h2 with h2 | ⟨g, cap, cur, rfl, hb, hh, h3⟩
  · exact .inl h2
  · exact .inr ⟨g, cap, cur, rfl, hb, (h.block g (Array.getElem?_eq_some_iff.1 hh).1 (hX g rfl)).trans hh, h3⟩
end
/-- A row of numbers of one's own: its block, its base no higher than it. -/
abbrev Row (w : World) (B b n c : Nat) (xs : List Int) : Prop := w.ownsRow B 3 1 (.slice (some ⟨b, 0, none⟩) n c) n (nums .i64 xs)
section
variable {w w1 : World} {B B' b n c : Nat} {xs : List Int}
theorem Row.lt (h : Row w B b n c xs) : b < w.heap.size := own_lt h b rfl
theorem Row.base (h : Row w B b n c xs) : B ≤ b := own_base h b rfl
theorem Row.len (h : Row w B b n c xs) : xs.length = n := by have := h.1; simpa [nums] using this
theorem Row.reb (h : Row w B b n c xs) (hb : B' ≤ b) : Row w B' b n c xs := by
  obtain ⟨h1, h2⟩ := h
  refine ⟨h1, ?_⟩
  rcases h2 with ⟨e, _⟩ | ⟨g, cap, cur, e, _, h3⟩
  · cases e
  · have : b = g := by injection e with e; injection e with e; injection e with e
    subst this
    exact .inr ⟨b, cap, cur, e, hb, h3⟩
theorem Row.set (h : Row w B b n c xs) (i : Nat) (x : Int) : Row (w.setCell ⟨b, i, none⟩ (.int .i64 x)) B b n c (xs.set i x) := by
  have := (own_store h (i : Int) x).1
  rwa [Int.toNat_natCast] at this
theorem Row.cell (h : Row w B b n c xs) (i : Nat) (hi : i < n) : w.cell? ⟨b, i, none⟩ = some (.int .i64 (xs.getD i 0)) ∧ w.frozen? ⟨b, i, none⟩ = false := by
  have hl := h.len
  refine ⟨?_, h.frozenAt i⟩
  rw [h.cellAt i (by omega)]
  simp [nums, List.getD_eq_getElem?_getD, List.getElem?_eq_getElem (show i < xs.length by omega)]
theorem Row.le (h : Row w B b n c xs) : n ≤ c ∧ c ≤ 9223372036854775807 := by
  rcases h.2 with ⟨e, _⟩ | ⟨g, cap, cur, e, _, _, h1, h2, _⟩
  · cases e
  · injection e with _ _ e3
    subst e3
    exact ⟨h1, by simpa [maxLen] using h2⟩
theorem Row.cells (h : Row w B b n c xs) : ∀ j u, (nums .i64 xs)[j]? = some u → w.cell? ((⟨b, 0, none⟩ : Addr).add j) = some u := World.ownsRow.cells h rfl
end
/-- Block g is an epoch; a, r, s: where its rows lie; m: its lock's word. -/
structure Mem (T : Nat) (w : World) (B g a r s : Nat) (m : Int) (st : St) : Prop where mk ::
  (blk : ∃ ca cr cs, w.heap[g]? = some (.cells #[.int .i32 m, .int .u32 0, .slice (some ⟨a, 0, none⟩) st.all.length ca, .int .i64 st.given, .slice (some ⟨r, 0, none⟩) st.rd.length cr, .slice (some ⟨s, 0, none⟩) st.seen.length cs] T (0, 0)) ∧
    Row w B a st.all.length ca st.all ∧ Row w B r st.rd.length cr st.rd ∧ Row w B s st.seen.length cs st.seen)
  (bg : B ≤ g)
  (ne : a ≠ g ∧ r ≠ g ∧ s ≠ g ∧ a ≠ r ∧ a ≠ s ∧ r ≠ s)
/-- The blocks of an epoch. -/
def Its (g a r s k : Nat) : Prop := k = g ∨ k = a ∨ k = r ∨ k = s
section
variable {T : Nat} {w w1 : World} {B B' g a r s : Nat} {m : Int} {st : St}
theorem setCell_heap {cells : Array Value} {T g j : Nat} {w : World} {u : Value} (h : w.heap[g]? = some (.cells cells T (0, 0))) : (w.setCell ⟨g, j, none⟩ u).heap[g]? = some (.cells (cells.setIfInBounds j u) T (0, 0)) := by
  simp [World.setCell, Array.getElem?_modify, h]
theorem Mem.glt (h : Mem T w B g a r s m st) : g < w.heap.size := by
  obtain ⟨⟨_, _, _, h1, _⟩, _⟩ := h
  exact (Array.getElem?_eq_some_iff.1 h1).1
theorem Mem.lt (h : Mem T w B g a r s m st) : ∀ k, Its g a r s k → B ≤ k ∧ k < w.heap.size := by
  have hg := h.glt
  obtain ⟨⟨_, _, _, h1, h2, h3, h4⟩, h5, _⟩ := h
  rintro k (rfl | rfl | rfl | rfl)
  · exact ⟨h5, hg⟩
  · exact ⟨h2.base, h2.lt⟩
  · exact ⟨h3.base, h3.lt⟩
  · exact ⟨h4.base, h4.lt⟩
theorem Mem.keep {X : Nat → Prop} (h : Mem T w B g a r s m st) (f : Fr X w w1) (hX : ∀ k, X k → ¬ Its g a r s k) : Mem T w1 B g a r s m st := by
  have hg := h.glt
  obtain ⟨⟨ca, cr, cs, h1, h2, h3, h4⟩, h5, h6⟩ := h
  refine ⟨⟨ca, cr, cs, (f.block g hg (fun x => hX g x (.inl rfl))).trans h1, f.own h2 ?_, f.own h3 ?_, f.own h4 ?_⟩, h5, h6⟩
  · intro k e x
    obtain rfl : a = k := by simpa [Value.ownBlock] using e
    exact hX _ x (.inr (.inl rfl))
  · intro k e x
    obtain rfl : r = k := by simpa [Value.ownBlock] using e
    exact hX _ x (.inr (.inr (.inl rfl)))
  · intro k e x
    obtain rfl : s = k := by simpa [Value.ownBlock] using e
    exact hX _ x (.inr (.inr (.inr rfl)))
theorem Mem.keepBelow (h : Mem T w B g a r s m st) (hb : Below w.heap.size w w1) : Mem T w1 B g a r s m st := h.keep (X := fun _ => False) (Fr.of_below hb) (fun _ x => x.elim)
theorem Mem.drewN (h : Mem T w B g a r s m st) (n : Nat) : Mem T (w.drewN n) B g a r s m st := h.keep (X := fun _ => False) (Fr.drewN w n) (fun _ x => x.elim)
theorem Mem.lower (h : Mem T w B g a r s m st) (hB : B' ≤ B) : Mem T w B' g a r s m st := by
  obtain ⟨⟨ca, cr, cs, h1, h2, h3, h4⟩, h5, h6⟩ := h
  exact ⟨⟨ca, cr, cs, h1, h2.reb (Nat.le_trans hB h2.base), h3.reb (Nat.le_trans hB h3.base), h4.reb (Nat.le_trans hB h4.base)⟩, Nat.le_trans hB h5, h6⟩
/-- A cell of the epoch's own block is written. -/
theorem Mem.inG (h : Mem T w B g a r s m st) (j : Nat) (u : Value) : ∀ {b n c : Nat} {xs : List Int}, b ≠ g → Row w B b n c xs → Row (w.setCell ⟨g, j, none⟩ u) B b n c xs := by
  intro b n c xs hb hr
  exact (Fr.set w g j u).own hr (fun k e x => by obtain rfl : b = k := (by simpa [Value.ownBlock] using e); exact hb x)
theorem Mem.lock (h : Mem T w B g a r s m st) (m' : Int) : Mem T (w.setCell ⟨g, 0, none⟩ (.int .i32 m')) B g a r s m' st := by
  have hh := h
  obtain ⟨⟨ca, cr, cs, h1, h2, h3, h4⟩, h5, h6⟩ := h
  exact ⟨⟨ca, cr, cs, setCell_heap h1, hh.inG _ _ h6.1 h2, hh.inG _ _ h6.2.1 h3, hh.inG _ _ h6.2.2.1 h4⟩, h5, h6⟩
theorem Mem.setGiven (h : Mem T w B g a r s m st) (x : Int) : Mem T (w.setCell ⟨g, 3, none⟩ (.int .i64 x)) B g a r s m { st with given := x } := by
  have hh := h
  obtain ⟨⟨ca, cr, cs, h1, h2, h3, h4⟩, h5, h6⟩ := h
  exact ⟨⟨ca, cr, cs, setCell_heap h1, hh.inG _ _ h6.1 h2, hh.inG _ _ h6.2.1 h3, hh.inG _ _ h6.2.2.1 h4⟩, h5, h6⟩
theorem Mem.setAll (h : Mem T w B g a r s m st) {a' c' : Nat} {xs : List Int} (hr : Row w B a' xs.length c' xs) (n1 : a' ≠ g) (n2 : a' ≠ r) (n3 : a' ≠ s) : Mem T (w.setCell ⟨g, 2, none⟩ (.slice (some ⟨a', 0, none⟩) xs.length c')) B g a' r s m { st with all := xs } := by
  have hh := h
  obtain ⟨⟨ca, cr, cs, h1, h2, h3, h4⟩, h5, h6⟩ := h
  exact ⟨⟨c', cr, cs, setCell_heap h1, hh.inG _ _ n1 hr, hh.inG _ _ h6.2.1 h3, hh.inG _ _ h6.2.2.1 h4⟩, h5, n1, h6.2.1, h6.2.2.1, n2, n3, h6.2.2.2.2.2⟩
theorem other {b b' n c j : Nat} {xs : List Int} {u : Value} (h : Row w B b n c xs) (hne : b ≠ b') : Row (w.setCell ⟨b', j, none⟩ u) B b n c xs :=
  (Fr.set w b' j u).own h (fun k e x => by obtain rfl : b = k := (by simpa [Value.ownBlock] using e); exact hne x)
theorem Mem.setRd (h : Mem T w B g a r s m st) (i : Nat) (x : Int) : Mem T (w.setCell ⟨r, i, none⟩ (.int .i64 x)) B g a r s m { st with rd := st.rd.set i x } := by
  obtain ⟨⟨ca, cr, cs, h1, h2, h3, h4⟩, h5, h6⟩ := h
  refine ⟨⟨ca, cr, cs, ?_, other h2 h6.2.2.2.1, ?_, other h4 (Ne.symm h6.2.2.2.2.2)⟩, h5, h6⟩
  · have := (Below.heap_setCell w ⟨r, i, none⟩ (.int .i64 x) g (fun e => h6.2.1 e.symm)).trans h1
    simpa using this
  · have := h3.set i x
    simpa using this
theorem Mem.setSeen (h : Mem T w B g a r s m st) (i : Nat) (x : Int) : Mem T (w.setCell ⟨s, i, none⟩ (.int .i64 x)) B g a r s m { st with seen := st.seen.set i x } := by
  obtain ⟨⟨ca, cr, cs, h1, h2, h3, h4⟩, h5, h6⟩ := h
  refine ⟨⟨ca, cr, cs, ?_, other h2 h6.2.2.2.2.1, other h3 h6.2.2.2.2.2, ?_⟩, h5, h6⟩
  · have := (Below.heap_setCell w ⟨s, i, none⟩ (.int .i64 x) g (fun e => h6.2.2.1 e.symm)).trans h1
    simpa using this
  · have := h4.set i x
    simpa using this
/-- The row of all has grown, and is written. -/
theorem Mem.grow (h : Mem T w B g a r s m st) {a' c' : Nat} {xs : List Int} (hg : w.grownBy w1 (some a)) (hr : Row w1 B a' xs.length c' xs) (hat : a' = a ∨ w.heap.size ≤ a') :
    Mem T (w1.setCell ⟨g, 2, none⟩ (.slice (some ⟨a', 0, none⟩) xs.length c')) B g a' r s m { st with all := xs } := by
  have hgl := h.glt
  have hrl := (h.lt r (.inr (.inr (.inl rfl)))).2
  have hsl := (h.lt s (.inr (.inr (.inr rfl)))).2
  obtain ⟨⟨ca, cr, cs, h1, h2, h3, h4⟩, h5, h6⟩ := h
  have n1 : a' ≠ g := by rcases hat with e | e <;> omega
  have n2 : a' ≠ r := by rcases hat with e | e <;> omega
  have n3 : a' ≠ s := by rcases hat with e | e <;> omega
  have k3 : Row w1 B r st.rd.length cr st.rd := own_other h3 hg (.inr (by simp [Value.ownBlock]; omega))
  have k4 : Row w1 B s st.seen.length cs st.seen := own_other h4 hg (.inr (by simp [Value.ownBlock]; omega))
  have k1 := (hg.block g hgl (by simp; omega)).trans h1
  exact ⟨⟨c', cr, cs, setCell_heap k1, (Fr.set w1 g 2 _).own hr (fun k e x => by obtain rfl : a' = k := (by simpa [Value.ownBlock] using e); exact n1 x), (Fr.set w1 g 2 _).own k3 (fun k e x => by obtain rfl : r = k := (by simpa [Value.ownBlock] using e); exact h6.2.1 x),
    (Fr.set w1 g 2 _).own k4 (fun k e x => by obtain rfl : s = k := (by simpa [Value.ownBlock] using e); exact h6.2.2.1 x)⟩, h5, n1, h6.2.1, h6.2.2.1, n2, n3, h6.2.2.2.2.2⟩
/-- The cells of an epoch. -/
theorem Mem.cells (h : Mem T w B g a r s m st) : ∃ ca cr cs, (w.cell? ⟨g, 0, none⟩ = some (.int .i32 m) ∧ w.cell? ⟨g, 2, none⟩ = some (.slice (some ⟨a, 0, none⟩) st.all.length ca) ∧ w.cell? ⟨g, 3, none⟩ = some (.int .i64 st.given) ∧
      w.cell? ⟨g, 4, none⟩ = some (.slice (some ⟨r, 0, none⟩) st.rd.length cr) ∧ w.cell? ⟨g, 5, none⟩ = some (.slice (some ⟨s, 0, none⟩) st.seen.length cs)) ∧
    (w.frozen? ⟨g, 0, none⟩ = false ∧ w.frozen? ⟨g, 2, none⟩ = false ∧ w.frozen? ⟨g, 3, none⟩ = false) ∧
    Row w B a st.all.length ca st.all ∧ Row w B r st.rd.length cr st.rd ∧ Row w B s st.seen.length cs st.seen := by
  obtain ⟨⟨ca, cr, cs, h1, h2, h3, h4⟩, h5, h6⟩ := h
  exact ⟨ca, cr, cs, ⟨by simp [World.cell?, h1], by simp [World.cell?, h1], by simp [World.cell?, h1], by simp [World.cell?, h1], by simp [World.cell?, h1]⟩, ⟨by simp [World.frozen?, h1], by simp [World.frozen?, h1], by simp [World.frozen?, h1]⟩, h2, h3, h4⟩
end
end Go.Proofs.Ytmepodmcmpndoaa.EpM
