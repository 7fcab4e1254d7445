/-
  A set of ports as it lies in memory: a block of two cells, a row of ports, a row of locals each, a map. Conditions: those of each theorem.
-/
import Derived.Test.YtefbcigccfkkgaaPureIface
import Derived.Maps.OwnOps
import Derived.Maps.OwnSet
set_option linter.unusedVariables false
set_option linter.unusedSimpArgs false
namespace Go.Proofs.Ytefbcigccfkkgaa.If
open Go.RowKit Go.Maps Go.Proofs.Ytefbcigccfkkgaa.PBase Go.Proofs.YtefbcigccfkkgaaW.PrintWords Go.Proofs.YtefbcigccfkkgaaW.PrintLast Go.Proofs.YtefbcigccfkkgaaW.PrintMore
/-- Nothing that was there has changed but the blocks X. -/
structure Fr (X : Nat → Prop) (w w' : World) : Prop where mk ::
  os : w'.os = w.os
  tape : w'.tape = w.tape
  output : w'.output = w.output
  size : w.heap.size ≤ w'.heap.size
  block : ∀ k, k < w.heap.size → ¬ X k → w'.heap[k]? = w.heap[k]?
section
variable {X Y : Nat → Prop} {w w1 w2 : World} {B : Nat}
theorem Fr.refl (X : Nat → Prop) (w : World) : Fr X w w := ⟨rfl, rfl, rfl, Nat.le_refl _, fun _ _ _ => rfl⟩
theorem Fr.trans (h : Fr X w w1) (h2 : Fr Y w1 w2) (hY : ∀ k, Y k → X k ∨ w.heap.size ≤ k) : Fr X w w2 :=
  ⟨h2.os.trans h.os, h2.tape.trans h.tape, h2.output.trans h.output, Nat.le_trans h.size h2.size, fun k hk hn =>
    (h2.block k (Nat.lt_of_lt_of_le hk h.size) (fun hy => by rcases hY k hy with q | q; exact hn q; omega)).trans (h.block k hk hn)⟩
theorem Fr.of_below (h : Below w.heap.size w w1) : Fr X w w1 := ⟨h.os, h.tape, h.output, h.size, fun k hk _ => h.block k hk⟩
theorem Fr.of_grown {row : Option Nat} (h : w.grownBy w1 row) (hX : ∀ k, row = some k → X k) : Fr X w w1 :=
  ⟨h.os, h.tape, h.output, h.size, fun k hk hn => h.block k hk (fun e => hn (hX k e.symm))⟩
theorem Fr.set (w : World) (g j : Nat) (u : Value) (hX : X g) : Fr X w (w.setCell ⟨g, j, none⟩ u) :=
  ⟨rfl, rfl, rfl, by simp [World.setCell], fun k hk hn => Below.heap_setCell w ⟨g, j, none⟩ u k (fun e => hn (e ▸ hX))⟩
theorem Fr.drewN (w : World) (n : Nat) : Fr X w (w.drewN n) := ⟨rfl, rfl, rfl, Nat.le_refl _, fun _ _ _ => rfl⟩
theorem Fr.mono (h : Fr X w w1) (hX : ∀ k, X k → Y k) : Fr Y w w1 := ⟨h.os, h.tape, h.output, h.size, fun k hk hn => h.block k hk (fun x => hn (hX k x))⟩
theorem Fr.below (h : Fr X w1 w2) {w0 : World} (hb : Below B w0 w1) (hB : B ≤ w1.heap.size) (hX : ∀ k, X k → B ≤ k) : Below B w0 w2 :=
  ⟨h.os.trans hb.os, h.tape.trans hb.tape, h.output.trans hb.output, Nat.le_trans hb.size h.size, fun k hk => (h.block k (by omega) (fun hx => by have := hX k hx; omega)).trans (hb.block k hk)⟩
end
/-- A slice as one cell. -/
structure Sl where
  a : Option Addr
  n : Nat
  c : Nat
def sv (x : Sl) : Value := .slice x.a x.n x.c
def kSl : Kd Sl := Kd.scalar sv (fun _ => rfl)
structure PS where
  s : S50
  l : Sl
def kP : Kd PS := Kd.iso (Kd.pair k50 kSl) (fun x : PS => (x.s, x.l))
theorem kP_sz : kP.sz = 5 := rfl
def pcs (x : PS) : List Value := [.string x.s.f0, .int .u64 x.s.f1, .int .i64 x.s.f2, .bool x.s.f3, sv x.l]
theorem kP_open {w : World} {x : PS} {cs : List Value} (h : kP.K w x cs) : cs = pcs x := by
  obtain ⟨_, _, rfl, s0, rfl⟩ := h
  obtain rfl := k50_open s0
  exact rfl
theorem kP_openM {w : World} {base : Nat} {ok : Nat → Prop} {x : PS} {cs : List Value} (h : kP.M w base ok x cs) : cs = pcs x := by
  obtain ⟨_, _, rfl, s0, rfl⟩ := h
  obtain rfl := k50_openM s0
  exact rfl
theorem kP_mkM (w : World) (base : Nat) (ok : Nat → Prop) (x : PS) : kP.M w base ok x (pcs x) := ⟨[.string x.s.f0, .int .u64 x.s.f1, .int .i64 x.s.f2, .bool x.s.f3], [sv x.l], rfl, k50_mkM w base ok x.s, rfl⟩
def lcs (x : Lo) : List Value := [.bool x.f0.f0, .int .u64 x.f0.f1, .int .u64 x.f0.f2, .int .i64 x.f1]
/-- A row of one's own, of ports or of locals: no other block is said to be its. -/
def RP (w : World) (v : Value) (xs : List PS) : Prop := Kd.R kP 66 w 0 (fun k => v.ownBlock = some k) v xs
def RL (w : World) (v : Value) (ls : List Lo) : Prop := Kd.R k34 34 w 0 (fun k => v.ownBlock = some k) v ls
section
variable {w w1 : World} {v : Value} {xs : List PS} {ls : List Lo} {base : Nat} {ok : Nat → Prop}
theorem RP.of (h : Kd.R kP 66 w base ok v xs) : RP w v xs := by
  have h2 := Kd.R_lower h (Nat.zero_le base)
  exact ⟨fun _ hk => hk, h2.2.imp_ (fun x cs hp => by obtain rfl := kP_openM hp; exact kP_mkM _ _ _ _)⟩
theorem RL.of (h : Kd.R k34 34 w base ok v ls) : RL w v ls := by
  have h2 := Kd.R_lower h (Nat.zero_le base)
  exact ⟨fun _ hk => hk, h2.2.imp_ (fun x cs hp => by obtain rfl := k34_openM hp; exact k34_mkM _ _ _ _)⟩
theorem RP.keep (h : RP w v xs) (hm : ∀ k, v.ownBlock = some k → w1.heap[k]? = w.heap[k]?) : RP w1 v xs := Kd.R_move h hm
theorem RL.keep (h : RL w v ls) (hm : ∀ k, v.ownBlock = some k → w1.heap[k]? = w.heap[k]?) : RL w1 v ls := Kd.R_move h hm
theorem RP.lt (h : RP w v xs) : ∀ k, v.ownBlock = some k → k < w.heap.size := fun k hk => ((Kd.R_bound h).1 k hk).2.2.1
theorem RL.lt (h : RL w v ls) : ∀ k, v.ownBlock = some k → k < w.heap.size := fun k hk => ((Kd.R_bound h).1 k hk).2.2.1
theorem RP.typed (h : RP w v xs) : ∀ k, v.ownBlock = some k → ∃ cells, w.heap[k]? = some (.cells cells 66 (0, 0)) := fun k hk => by
  obtain ⟨_, ho, _⟩ := h.2
  exact own_typed ho k hk
theorem RL.typed (h : RL w v ls) : ∀ k, v.ownBlock = some k → ∃ cells, w.heap[k]? = some (.cells cells 34 (0, 0)) := fun k hk => by
  obtain ⟨_, ho, _⟩ := h.2
  exact own_typed ho k hk
theorem RP.nil (w : World) : RP w (.slice none 0 0) [] := RP.of (Kd.R_nil kP _ w 0 (fun _ => True))
theorem RL.nil (w : World) : RL w (.slice none 0 0) [] := RL.of (Kd.R_nil k34 _ w 0 (fun _ => True))
theorem RP.slice (h : RP w v xs) : ∃ A c, v = .slice A xs.length c := Kd.R_slice h
theorem RL.slice (h : RL w v ls) : ∃ A c, v = .slice A ls.length c := Kd.R_slice h
end
theorem reps_get {α : Type} {R : α → List Value → Prop} {sz : Nat} {E : α → List Value} (hE : ∀ x c, R x c → c = E x) {ps : List α} {inner : List Value} (h : Reps R sz ps inner) {i j : Nat} {x : α} {u : Value} (hx : ps[i]? = some x) (hu : (E x)[j]? = some u) (hj : j < sz) : inner[i * sz + j]? = some u := by
  have e := hE x _ (h.2 i x hx)
  rw [← e, List.getElem?_take, if_pos hj, List.getElem?_drop] at hu
  exact hu
section
variable {w w1 : World} {v : Value} {xs : List PS} {ls : List Lo} {g n c : Nat}
theorem RP.shape (h : RP w v xs) (hn : 0 < xs.length) : ∃ g c, v = .slice (some ⟨g, 0, none⟩) xs.length c := by
  obtain ⟨_, inner, ho, _⟩ := h
  rcases ho.2 with ⟨_, h0⟩ | ⟨g, cap, cur, e, _⟩
  · omega
  · exact ⟨g, cap, e⟩
theorem RL.shape (h : RL w v ls) (hn : 0 < ls.length) : ∃ g c, v = .slice (some ⟨g, 0, none⟩) ls.length c := by
  obtain ⟨_, inner, ho, _⟩ := h
  rcases ho.2 with ⟨_, h0⟩ | ⟨g, cap, cur, e, _⟩
  · omega
  · exact ⟨g, cap, e⟩
theorem RP.num (h : RP w (.slice (some ⟨g, 0, none⟩) n c) xs) : n = xs.length := (Kd.R_reads' h).1
theorem RL.num (h : RL w (.slice (some ⟨g, 0, none⟩) n c) ls) : n = ls.length := (Kd.R_reads' h).1
theorem RP.cell (h : RP w (.slice (some ⟨g, 0, none⟩) n c) xs) {i : Nat} {x : PS} (hx : xs[i]? = some x) {j : Nat} {u : Value} (hu : (pcs x)[j]? = some u) : w.cell? ⟨g, i * 5 + j, none⟩ = some u ∧ w.frozen? ⟨g, i * 5 + j, none⟩ = false := by
  obtain rfl := h.num
  obtain ⟨_, inner, ho, hr⟩ := h
  have hj : j < 5 := (List.getElem?_eq_some_iff.1 hu).1
  have hi : i < xs.length := (List.getElem?_eq_some_iff.1 hx).1
  have hlt : i * 5 + j < xs.length * 5 := by omega
  refine ⟨?_, ho.frozenAt _⟩
  rw [ho.cellAt (i * 5 + j) hlt]
  exact reps_get (sz := 5) (E := pcs) (fun x c hc => kP_openM hc) hr hx hu hj
theorem RL.cell (h : RL w (.slice (some ⟨g, 0, none⟩) n c) ls) {i : Nat} {x : Lo} (hx : ls[i]? = some x) {j : Nat} {u : Value} (hu : (lcs x)[j]? = some u) : w.cell? ⟨g, i * 4 + j, none⟩ = some u ∧ w.frozen? ⟨g, i * 4 + j, none⟩ = false := by
  obtain rfl := h.num
  obtain ⟨_, inner, ho, hr⟩ := h
  have hj : j < 4 := (List.getElem?_eq_some_iff.1 hu).1
  have hi : i < ls.length := (List.getElem?_eq_some_iff.1 hx).1
  have hlt : i * 4 + j < ls.length * 4 := by omega
  refine ⟨?_, ho.frozenAt _⟩
  rw [ho.cellAt (i * 4 + j) hlt]
  exact reps_get (sz := 4) (E := lcs) (fun x c hc => k34_openM hc) hr hx hu hj
end
theorem own_set {w : World} {B e size g n c : Nat} {xs : List Value} (h : w.ownsRow B e size (.slice (some ⟨g, 0, none⟩) n c) n xs) (j : Nat) (u : Value) : (w.setCell ⟨g, j, none⟩ u).ownsRow B e size (.slice (some ⟨g, 0, none⟩) n c) n (xs.set j u) := by
  obtain ⟨h1, h2⟩ := h
  refine ⟨by rw [List.length_set]; exact h1, ?_⟩
  rcases h2 with ⟨q, _⟩ | ⟨g', cap, cur, q, hb, hh, h3, h4, h5, h6⟩
  · cases q
  · obtain ⟨rfl, rfl⟩ : g = g' ∧ c = cap := by injection q with q1 q2 q3; injection q1 with q1; injection q1 with q1; exact ⟨q1, q3⟩
    refine .inr ⟨g, c, cur.setIfInBounds j u, rfl, hb, by simp [World.setCell, Array.getElem?_modify, hh], h3, h4, by rw [Array.size_setIfInBounds]; exact h5, ?_⟩
    rw [Array.toList_setIfInBounds, List.take_set, h6]
theorem reps_set {α : Type} {R : α → List Value → Prop} {sz : Nat} {ps : List α} {inner : List Value} (h : Reps R sz ps inner) {i j : Nat} {x' : α} {u : Value} (hi : i < ps.length) (hj : j < sz) (hR : ∀ x cs, ps[i]? = some x → R x cs → R x' (cs.set j u)) : Reps R sz (ps.set i x') (inner.set (i * sz + j) u) := by
  refine ⟨by rw [List.length_set, List.length_set]; exact h.1, fun k p hp => ?_⟩
  rw [List.getElem?_set] at hp
  have hlen := h.1
  split at hp
  · rename_i e
    subst e
    obtain rfl := Option.some.inj hp
    obtain ⟨x, hx⟩ : ∃ x, ps[i]? = some x := ⟨_, List.getElem?_eq_getElem hi⟩
    have := hR x _ hx (h.2 i x hx)
    rw [List.drop_set, if_neg (by omega), List.take_set, show i * sz + j - i * sz = j by omega]
    exact this
  · rename_i e
    rw [List.drop_set]
    split
    · exact h.2 k p hp
    · rename_i hlt
      rw [List.take_set, List.set_eq_of_length_le]
      · exact h.2 k p hp
      · rw [List.length_take]
        have : k < i := by
          rcases Nat.lt_or_ge k i with q | q
          · exact q
          · have : i + 1 ≤ k := by omega
            have := Nat.mul_le_mul_right sz this
            rw [Nat.add_mul, Nat.one_mul] at this
            omega
        have := Nat.mul_le_mul_right sz (show k + 1 ≤ i by omega)
        rw [Nat.add_mul, Nat.one_mul] at this
        omega
theorem RP.set {w : World} {xs : List PS} {g n c : Nat} (h : RP w (.slice (some ⟨g, 0, none⟩) n c) xs) {i j : Nat} {x x' : PS} {u : Value} (hx : xs[i]? = some x) (hj : j < 5) (hu : pcs x' = (pcs x).set j u) : RP (w.setCell ⟨g, i * 5 + j, none⟩ u) (.slice (some ⟨g, 0, none⟩) n c) (xs.set i x') := by
  obtain rfl := h.num
  obtain ⟨h0, inner, ho, hr⟩ := h
  have hi : i < xs.length := (List.getElem?_eq_some_iff.1 hx).1
  refine ⟨h0, inner.set (i * 5 + j) u, ?_, ?_⟩
  · rw [List.length_set]; exact own_set ho _ _
  · refine reps_set (sz := 5) (hr.imp_ (fun y cs hp => by obtain rfl := kP_openM hp; exact kP_mkM _ _ _ _)) hi hj (fun y cs hy hcs => ?_)
    obtain rfl : x = y := Option.some.inj (hx.symm.trans hy)
    obtain rfl := kP_openM hcs
    rw [← hu]
    exact kP_mkM _ _ _ _
/-- The map of the names. -/
def Names (w : World) (mb : Nat) (st : St) : Prop :=
  ∃ (n : Nat) (D : DataW Unit), w.ownsMap Try.prog 9 (plainElem Try.prog 3) mb n D ∧ n ≤ st.length ∧ ∀ s : ByteArray, D.atKey (.string s.data.toList) (.lit (.int .i64 0)) = .lit (.int .i64 (named st s))
theorem Names.keep {w w1 : World} {mb : Nat} {st : St} (h : Names w mb st) (hm : w1.heap[mb]? = w.heap[mb]?) : Names w1 mb st := by
  obtain ⟨n, D, ⟨es, clock, hb, r⟩, h2⟩ := h
  exact ⟨n, D, ⟨es, clock, hm.trans hb, r⟩, h2⟩
theorem Names.same {w : World} {mb : Nat} {st st' : St} (h : Names w mb st) (hl : st'.length = st.length) (hn : ∀ s, named st' s = named st s) : Names w mb st' := by
  obtain ⟨n, D, h1, h2, h3⟩ := h
  exact ⟨n, D, h1, by omega, fun s => by rw [hn]; exact h3 s⟩
/-- A port and what its cells hold. -/
def Like (w : World) (p : Pt) (x : PS) : Prop := x.s = ⟨p.nm, p.mac, p.mtu, p.up⟩ ∧ RL w (sv x.l) p.ls
/-- Block sb is a set of ports; its blocks are among S. -/
structure Mem (w : World) (S : Nat → Prop) (sb mb : Nat) (v : Value) (xs : List PS) (st : St) : Prop where mk ::
  (blk : w.heap[sb]? = some (.cells #[v, .map (some mb)] 71 (0, 0)))
  (row : RP w v xs)
  (len : xs.length = st.length)
  (like : ∀ (i : Nat) (p : Pt) (x : PS), st[i]? = some p → xs[i]? = some x → Like w p x)
  (sep : ∀ (i j : Nat) (x y : PS), i ≠ j → xs[i]? = some x → xs[j]? = some y → ∀ k, (sv x.l).ownBlock = some k → (sv y.l).ownBlock ≠ some k)
  (map : Names w mb st)
  (its : S sb ∧ S mb ∧ (∀ k, v.ownBlock = some k → S k) ∧ ∀ x ∈ xs, ∀ k, (sv x.l).ownBlock = some k → S k)
  (lt : ∀ k, S k → k < w.heap.size)
section
variable {w w1 : World} {S S' : Nat → Prop} {sb mb : Nat} {v : Value} {xs : List PS} {st : St}
theorem Mem.keep (h : Mem w S sb mb v xs st) (hs : w.heap.size ≤ w1.heap.size) (hm : ∀ k, S k → w1.heap[k]? = w.heap[k]?) : Mem w1 S sb mb v xs st where
  blk := (hm _ h.its.1).trans h.blk
  row := h.row.keep (fun k hk => hm k (h.its.2.2.1 k hk))
  len := h.len
  like := fun i p x hp hx => ⟨(h.like i p x hp hx).1, (h.like i p x hp hx).2.keep (fun k hk => hm k (h.its.2.2.2 x (List.mem_of_getElem? hx) k hk))⟩
  sep := h.sep
  map := h.map.keep (hm _ h.its.2.1)
  its := h.its
  lt := fun k hk => Nat.lt_of_lt_of_le (h.lt k hk) hs
theorem Mem.below (h : Mem w S sb mb v xs st) (hb : Below w.heap.size w w1) : Mem w1 S sb mb v xs st := h.keep hb.size (fun k hk => hb.block k (h.lt k hk))
theorem Mem.wide (h : Mem w S sb mb v xs st) (hS : ∀ k, S k → S' k) (hlt : ∀ k, S' k → k < w.heap.size) : Mem w S' sb mb v xs st :=
  { h with its := ⟨hS _ h.its.1, hS _ h.its.2.1, fun k hk => hS k (h.its.2.2.1 k hk), fun x hx k hk => hS k (h.its.2.2.2 x hx k hk)⟩, lt := hlt }
/-- A cell of a port that is no slice is written. -/
theorem Mem.setUp (h : Mem w S sb mb v xs st) {pb n c i : Nat} (hv : v = .slice (some ⟨pb, 0, none⟩) n c) {p : Pt} {x : PS} (hp : st[i]? = some p) (hx : xs[i]? = some x) (up : Bool) :
    Mem (w.setCell ⟨pb, i * 5 + 3, none⟩ (.bool up)) S sb mb v (xs.set i ⟨{ x.s with f3 := up }, x.l⟩) (st.modify i fun p => { p with up := up }) := by
  subst hv
  have hpb : (Value.slice (some ⟨pb, 0, none⟩) n c).ownBlock = some pb := rfl
  obtain ⟨cp, hcp⟩ := h.row.typed pb hpb
  have far : ∀ k, k ≠ pb → (w.setCell ⟨pb, i * 5 + 3, none⟩ (.bool up)).heap[k]? = w.heap[k]? := fun k hk => Below.heap_setCell w _ _ k hk
  have hne : ∀ (k : Nat) (cs : Array Value) (t : Nat), w.heap[k]? = some (.cells cs t (0, 0)) → t ≠ 66 → k ≠ pb := fun k cs t hk ht e => by
    subst e
    rw [hcp] at hk
    injection hk with hk
    injection hk with _ hk
    exact ht hk.symm
  have hsb := hne sb _ _ h.blk (by decide)
  have hmb : mb ≠ pb := fun e => by
    obtain ⟨_, _, ⟨_, _, hb, _⟩, _⟩ := h.map
    rw [e, hcp] at hb
    cases hb
  have hl : ∀ (j : Nat) (q : Pt) (y : PS), st[j]? = some q → xs[j]? = some y → ∀ k, (sv y.l).ownBlock = some k → k ≠ pb := fun j q y hq hy k hk => by
    obtain ⟨cs, hc⟩ := (h.like j q y hq hy).2.typed k hk
    exact hne k cs _ hc (by decide)
  have hi : i < xs.length := (List.getElem?_eq_some_iff.1 hx).1
  refine ⟨(far sb hsb).trans h.blk, h.row.set hx (by decide) rfl, by rw [List.length_set, List.length_modify]; exact h.len, ?_, ?_, ?_, ?_, fun k hk => by simpa [World.setCell] using h.lt k hk⟩
  · intro j q y hq hy
    rw [mod_get] at hq
    rw [List.getElem?_set] at hy
    by_cases e : i = j
    · subst e
      rw [if_pos rfl, hp] at hq
      rw [if_pos rfl, if_pos hi] at hy
      obtain rfl := Option.some.inj hq
      obtain rfl := Option.some.inj hy
      obtain ⟨l1, l2⟩ := h.like i p x hp hx
      exact ⟨by simp [l1], l2.keep (fun k hk => far k (hl i p x hp hx k hk))⟩
    · rw [if_neg e] at hq hy
      obtain ⟨l1, l2⟩ := h.like j q y hq hy
      exact ⟨l1, l2.keep (fun k hk => far k (hl j q y hq hy k hk))⟩
  · have hxl : ∀ (j : Nat) (y : PS), (xs.set i ⟨{ x.s with f3 := up }, x.l⟩)[j]? = some y → ∃ z, xs[j]? = some z ∧ z.l = y.l := fun j y hy => by
      rw [List.getElem?_set] at hy
      by_cases e : i = j
      · subst e
        rw [if_pos rfl, if_pos hi] at hy
        obtain rfl := Option.some.inj hy
        exact ⟨x, hx, rfl⟩
      · rw [if_neg e] at hy
        exact ⟨y, hy, rfl⟩
    intro j j' y y' hne hy hy' k hk
    obtain ⟨z, hz, ez⟩ := hxl j y hy
    obtain ⟨z', hz', ez'⟩ := hxl j' y' hy'
    rw [← ez] at hk
    rw [← ez']
    exact h.sep j j' z z' hne hz hz' k hk
  · refine (h.map.keep (far mb hmb)).same (List.length_modify ..) (fun s => ?_)
    unfold named
    exact congrArg num (named_modify _ _ _ _ (fun _ => rfl))
  · refine ⟨h.its.1, h.its.2.1, h.its.2.2.1, fun y hy k hk => ?_⟩
    rcases List.mem_or_eq_of_mem_set hy with q | rfl
    · exact h.its.2.2.2 y q k hk
    · exact h.its.2.2.2 x (List.mem_of_getElem? hx) k hk
end
end Go.Proofs.Ytefbcigccfkkgaa.If
