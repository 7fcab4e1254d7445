/-
  The document's set of ports as it lies in memory: a block of two cells, a row of ports, a row of rows of locals. Conditions: those of each theorem.
-/
import Derived.Test.YtefbcigccfkkgaaWIfaceB
set_option linter.unusedVariables false
set_option linter.unusedSimpArgs false
namespace Go.Proofs.Ytefbcigccfkkgaa.WIf
open Go.RowKit Go.Maps Go.WideMaps Go.Proofs.Ytefbcigccfkkgaa.PBase Go.Proofs.YtefbcigccfkkgaaW.PrintWords Go.Proofs.YtefbcigccfkkgaaW.PrintLast Go.Proofs.YtefbcigccfkkgaaW.PrintMore Go.Proofs.Ytefbcigccfkkgaa.If
/-- A kind whose cells are told by the value alone. -/
structure Plain {α : Type} (d : Kd α) (E : α → List Value) : Prop where mk ::
  (openM : ∀ {w : World} {base : Nat} {ok : Nat → Prop} {x : α} {cs : List Value}, d.M w base ok x cs → cs = E x)
  (mkM : ∀ (w : World) (base : Nat) (ok : Nat → Prop) (x : α), d.M w base ok x (E x))
def RowK {α : Type} (d : Kd α) (t : TypeId) (w : World) (v : Value) (xs : List α) : Prop := Kd.R d t w 0 (fun k => v.ownBlock = some k) v xs
section
variable {α : Type} {d : Kd α} {E : α → List Value} {t : TypeId} {w w1 : World} {v : Value} {xs : List α} {base : Nat} {ok : Nat → Prop} {g n c : Nat}
theorem RowK.of (P : Plain d E) (h : Kd.R d t w base ok v xs) : RowK d t w v xs := by
  have h2 := Kd.R_lower h (Nat.zero_le base)
  exact ⟨fun _ hk => hk, h2.2.imp_ (fun x cs hp => by rw [P.openM hp]; exact P.mkM _ _ _ _)⟩
theorem RowK.all (P : Plain d E) (h : RowK d t w v xs) : Kd.R d t w 0 (fun _ => True) v xs :=
  ⟨fun _ _ => trivial, h.2.imp_ (fun x cs hp => by rw [P.openM hp]; exact P.mkM _ _ _ _)⟩
theorem RowK.keep (h : RowK d t w v xs) (hm : ∀ k, v.ownBlock = some k → w1.heap[k]? = w.heap[k]?) : RowK d t w1 v xs := Kd.R_move h hm
theorem RowK.lt (h : RowK d t w v xs) : ∀ k, v.ownBlock = some k → k < w.heap.size := fun k hk => ((Kd.R_bound h).1 k hk).2.2.1
theorem RowK.typed (h : RowK d t w v xs) : ∀ k, v.ownBlock = some k → ∃ cells, w.heap[k]? = some (.cells cells t (0, 0)) := fun k hk => by
  obtain ⟨_, ho, _⟩ := h.2
  exact own_typed ho k hk
theorem RowK.slice (h : RowK d t w v xs) : ∃ A c, v = .slice A xs.length c := Kd.R_slice h
theorem RowK.shape (h : RowK d t w v xs) (hn : 0 < xs.length) : ∃ g c, v = .slice (some ⟨g, 0, none⟩) xs.length c := by
  obtain ⟨_, inner, ho, _⟩ := h
  rcases ho.2 with ⟨_, h0⟩ | ⟨g, cap, cur, e, _⟩
  · omega
  · exact ⟨g, cap, e⟩
theorem RowK.num (h : RowK d t w (.slice (some ⟨g, 0, none⟩) n c) xs) : n = xs.length := (Kd.R_reads' h).1
theorem RowK.cell (P : Plain d E) (h : RowK d t w (.slice (some ⟨g, 0, none⟩) n c) xs) {i : Nat} {x : α} (hx : xs[i]? = some x) {j : Nat} {u : Value} (hu : (E x)[j]? = some u) (hj : j < d.sz) : w.cell? ⟨g, i * d.sz + j, none⟩ = some u ∧ w.frozen? ⟨g, i * d.sz + j, none⟩ = false := by
  obtain rfl := h.num
  obtain ⟨_, inner, ho, hr⟩ := h
  have hi : i < xs.length := (List.getElem?_eq_some_iff.1 hx).1
  have hlt : i * d.sz + j < xs.length * d.sz := by
    have := Nat.mul_le_mul_right d.sz (show i + 1 ≤ xs.length by omega)
    rw [Nat.add_mul, Nat.one_mul] at this
    omega
  refine ⟨?_, ho.frozenAt _⟩
  rw [ho.cellAt (i * d.sz + j) hlt]
  exact reps_get (sz := d.sz) (E := E) (fun x c hc => P.openM hc) hr hx hu hj
theorem RowK.set (P : Plain d E) (h : RowK d t w (.slice (some ⟨g, 0, none⟩) n c) xs) {i j : Nat} {x x' : α} {u : Value} (hx : xs[i]? = some x) (hj : j < d.sz) (hu : E x' = (E x).set j u) : RowK d t (w.setCell ⟨g, i * d.sz + j, none⟩ u) (.slice (some ⟨g, 0, none⟩) n c) (xs.set i x') := by
  obtain rfl := h.num
  obtain ⟨h0, inner, ho, hr⟩ := h
  have hi : i < xs.length := (List.getElem?_eq_some_iff.1 hx).1
  refine ⟨h0, inner.set (i * d.sz + j) u, ?_, ?_⟩
  · rw [List.length_set]; exact own_set ho _ _
  · refine reps_set (sz := d.sz) (hr.imp_ (fun y cs hp => by rw [P.openM hp]; exact P.mkM _ _ _ _)) hi hj (fun y cs hy hcs => ?_)
    obtain rfl : x = y := Option.some.inj (hx.symm.trans hy)
    obtain rfl := P.openM hcs
    rw [← hu]
    exact P.mkM _ _ _ _
end
def pOf (p : Pt) : S50 := ⟨p.nm, p.mac, p.mtu, p.up⟩
abbrev poL (P : S50) : List Value := [.string P.f0, .int .u64 P.f1, .int .i64 P.f2, .bool P.f3]
theorem plP : Plain k50 poL := ⟨fun h => k50_openM h, fun w b ok x => k50_mkM w b ok x⟩
theorem plS : Plain kSl (fun x => [sv x]) := ⟨fun h => h, fun _ _ _ _ => rfl⟩
/-- Block db is the document's set of ports; its blocks are among S. -/
structure Dem (w : World) (S : Nat → Prop) (db : Nat) (v1 v2 : Value) (ls : List Sl) (st : St) : Prop where mk ::
  (blk : w.heap[db]? = some (.cells #[v1, v2] 75 (0, 0)))
  (rowP : RowK k50 50 w v1 (st.map pOf))
  (rowL : RowK kSl 31 w v2 ls)
  (len : ls.length = st.length)
  (like : ∀ (i : Nat) (p : Pt) (x : Sl), st[i]? = some p → ls[i]? = some x → RL w (sv x) p.ls)
  (sep : ∀ (i j : Nat) (x y : Sl), i ≠ j → ls[i]? = some x → ls[j]? = some y → ∀ k, (sv x).ownBlock = some k → (sv y).ownBlock ≠ some k)
  (its : S db ∧ (∀ k, v1.ownBlock = some k → S k) ∧ (∀ k, v2.ownBlock = some k → S k) ∧ ∀ x ∈ ls, ∀ k, (sv x).ownBlock = some k → S k)
  (lt : ∀ k, S k → k < w.heap.size)
section
variable {w w1 w' : World} {S S' : Nat → Prop} {db : Nat} {v1 v2 : Value} {ls : List Sl} {st : St}
theorem Dem.keep (h : Dem w S db v1 v2 ls st) (hs : w.heap.size ≤ w1.heap.size) (hm : ∀ k, S k → w1.heap[k]? = w.heap[k]?) : Dem w1 S db v1 v2 ls st where
  blk := (hm _ h.its.1).trans h.blk
  rowP := h.rowP.keep (fun k hk => hm k (h.its.2.1 k hk))
  rowL := h.rowL.keep (fun k hk => hm k (h.its.2.2.1 k hk))
  len := h.len
  like := fun i p x hp hx => (h.like i p x hp hx).keep (fun k hk => hm k (h.its.2.2.2 x (List.mem_of_getElem? hx) k hk))
  sep := h.sep
  its := h.its
  lt := fun k hk => Nat.lt_of_lt_of_le (h.lt k hk) hs
theorem Dem.below (h : Dem w S db v1 v2 ls st) (hb : Below w.heap.size w w1) : Dem w1 S db v1 v2 ls st := h.keep hb.size (fun k hk => hb.block k (h.lt k hk))
theorem typed_ne {w : World} {k g : Nat} {cs cg : Array Value} {t u : TypeId} (hk : w.heap[k]? = some (.cells cs t (0, 0))) (hg : w.heap[g]? = some (.cells cg u (0, 0))) (h : t ≠ u) : k ≠ g := fun e => by
  subst e
  rw [hk] at hg
  injection hg with q
  injection q with _ q
  exact h q
/-- A row is apart from the set's own block, and so on. -/
theorem Dem.types (h : Dem w S db v1 v2 ls st) : (∀ k, v1.ownBlock = some k → ∃ cs, w.heap[k]? = some (.cells cs 50 (0, 0))) ∧ (∀ k, v2.ownBlock = some k → ∃ cs, w.heap[k]? = some (.cells cs 31 (0, 0))) ∧ (∀ (i : Nat) (x : Sl), ls[i]? = some x → ∀ k, (sv x).ownBlock = some k → (∃ cs, w.heap[k]? = some (.cells cs 34 (0, 0))) ∧ k < w.heap.size) := by
  refine ⟨h.rowP.typed, h.rowL.typed, fun i x hx k hk => ?_⟩
  have hi : i < st.length := by rw [← h.len]; exact (List.getElem?_eq_some_iff.1 hx).1
  have hr := h.like i st[i] x (List.getElem?_eq_getElem hi) hx
  exact ⟨hr.typed k hk, hr.lt k hk⟩
theorem map_modify {st : St} {i : Nat} {p : Pt} (hp : st[i]? = some p) (f : Pt → Pt) : (st.modify i f).map pOf = (st.map pOf).set i (pOf (f p)) := by
  refine List.ext_getElem? (fun j => ?_)
  rw [List.getElem?_map, mod_get, List.getElem?_set, List.length_map]
  have hi := (List.getElem?_eq_some_iff.1 hp).1
  by_cases e : i = j
  · subst e
    rw [if_pos rfl, if_pos rfl, if_pos hi, hp]; rfl
  · rw [if_neg e, if_neg e, List.getElem?_map]
/-- A port is turned. -/
theorem Dem.setUp (h : Dem w S db v1 v2 ls st) {pb n c i : Nat} (hv : v1 = .slice (some ⟨pb, 0, none⟩) n c) {p : Pt} (hp : st[i]? = some p) (up : Bool) :
    Dem (w.setCell ⟨pb, i * 4 + 3, none⟩ (.bool up)) S db v1 v2 ls (st.modify i fun p => { p with up := up }) := by
  subst hv
  obtain ⟨t1, t2, t3⟩ := h.types
  obtain ⟨cp, hcp⟩ := t1 pb rfl
  have far : ∀ k, k ≠ pb → (w.setCell ⟨pb, i * 4 + 3, none⟩ (.bool up)).heap[k]? = w.heap[k]? := fun k hk => Below.heap_setCell w _ _ k hk
  refine ⟨(far db (typed_ne h.blk hcp (by decide))).trans h.blk, ?_, h.rowL.keep (fun k hk => far k (by obtain ⟨cs, hc⟩ := t2 k hk; exact typed_ne hc hcp (by decide))), by rw [List.length_modify]; exact h.len, ?_, h.sep, h.its, fun k hk => by simpa [World.setCell] using h.lt k hk⟩
  · rw [map_modify hp]
    have hx : (st.map pOf)[i]? = some (pOf p) := by rw [List.getElem?_map, hp]; rfl
    exact RowK.set plP h.rowP (j := 3) hx (by decide) rfl
  · intro j q y hq hy
    have hk : RL (w.setCell ⟨pb, i * 4 + 3, none⟩ (.bool up)) (sv y) (st[j]'(by rw [← h.len]; exact (List.getElem?_eq_some_iff.1 hy).1)).ls := (h.like j _ y (List.getElem?_eq_getElem _) hy).keep (fun k hk => far k (by obtain ⟨⟨cs, hc⟩, _⟩ := t3 j y hy k hk; exact typed_ne hc hcp (by decide)))
    rw [mod_get] at hq
    by_cases e : i = j
    · subst e
      rw [if_pos rfl, hp] at hq
      obtain rfl := Option.some.inj hq
      have : st[i]'(by rw [← h.len]; exact (List.getElem?_eq_some_iff.1 hy).1) = p := Option.some.inj ((List.getElem?_eq_getElem _).symm.trans hp)
      rw [this] at hk
      exact hk
    · rw [if_neg e] at hq
      have : st[j]'(by rw [← h.len]; exact (List.getElem?_eq_some_iff.1 hy).1) = q := Option.some.inj ((List.getElem?_eq_getElem _).symm.trans hq)
      rw [this] at hk
      exact hk
/-- A port's locals are others. -/
theorem dem_lset (h : Dem w S db v1 v2 ls st) {lb n c i : Nat} (hv : v2 = .slice (some ⟨lb, 0, none⟩) n c) {p : Pt} {x : Sl} (hp : st[i]? = some p) (hx : ls[i]? = some x) (l' : Sl) (ns : List Lo)
    (hlb : w'.heap[lb]? = (w.setCell ⟨lb, i, none⟩ (sv l')).heap[lb]?) (hl : RL w' (sv l') ns) (hat : ∀ k, (sv l').ownBlock = some k → w.heap.size ≤ k)
    (hfr : ∀ k, k < w.heap.size → k ≠ lb → w'.heap[k]? = w.heap[k]?) (hs : w.heap.size ≤ w'.heap.size) :
    Dem w' (fun k => S k ∨ (sv l').ownBlock = some k) db v1 v2 (ls.set i l') (st.modify i fun p => { p with ls := ns }) := by
  subst hv
  obtain ⟨t1, t2, t3⟩ := h.types
  obtain ⟨cp, hcp⟩ := t2 lb rfl
  have hi : i < ls.length := (List.getElem?_eq_some_iff.1 hx).1
  have hset : ∀ (j : Nat) (y : Sl), (ls.set i l')[j]? = some y → (j = i ∧ y = l') ∨ (j ≠ i ∧ ls[j]? = some y) := fun j y hy => by
    rw [List.getElem?_set] at hy
    by_cases e : i = j
    · subst e
      rw [if_pos rfl, if_pos hi] at hy
      exact .inl ⟨rfl, (Option.some.inj hy).symm⟩
    · rw [if_neg e] at hy
      exact .inr ⟨fun q => e q.symm, hy⟩
  refine ⟨(hfr db (h.lt db h.its.1) (typed_ne h.blk hcp (by decide))).trans h.blk, ?_, ?_, by rw [List.length_set, List.length_modify]; exact h.len, ?_, ?_, ?_, ?_⟩
  · have e : (st.modify i fun p => { p with ls := ns }).map pOf = st.map pOf := by
      rw [map_modify hp]
      refine List.ext_getElem? (fun j => ?_)
      rw [List.getElem?_set, List.length_map, List.getElem?_map]
      by_cases q : i = j
      · subst q
        rw [if_pos rfl, if_pos (by rw [← h.len]; exact hi), hp]; rfl
      · rw [if_neg q]
    rw [e]
    exact h.rowP.keep (fun k hk => hfr k (h.rowP.lt k hk) (by obtain ⟨cs, hc⟩ := t1 k hk; exact typed_ne hc hcp (by decide)))
  · have hrs := RowK.set plS h.rowL (x' := l') (u := sv l') hx (j := 0) (by decide) rfl
    have e0 : i * kSl.sz + 0 = i := by show i * 1 + 0 = i; omega
    rw [e0] at hrs
    exact hrs.keep (fun k hk => by obtain rfl : lb = k := Option.some.inj hk; exact hlb)
  · intro j q y hq hy
    rw [mod_get] at hq
    rcases hset j y hy with ⟨rfl, rfl⟩ | ⟨hj, hy2⟩
    · rw [if_pos rfl, hp] at hq
      obtain rfl := Option.some.inj hq
      exact hl
    · rw [if_neg (fun e => hj e.symm)] at hq
      exact (h.like j q y hq hy2).keep (fun k hk => hfr k (t3 j y hy2 k hk).2 (by obtain ⟨⟨cs, hc⟩, _⟩ := t3 j y hy2 k hk; exact typed_ne hc hcp (by decide)))
  · intro j j' y y' hne' hy hy' k hk hk'
    rcases hset j y hy with ⟨rfl, rfl⟩ | ⟨hj, hy2⟩
    · rcases hset j' y' hy' with ⟨rfl, rfl⟩ | ⟨hj', hy2'⟩
      · exact hne' rfl
      · have := hat k hk
        have := (t3 j' y' hy2' k hk').2
        omega
    · rcases hset j' y' hy' with ⟨rfl, rfl⟩ | ⟨hj', hy2'⟩
      · have := hat k hk'
        have := (t3 j y hy2 k hk).2
        omega
      · exact h.sep j j' y y' hne' hy2 hy2' k hk hk'
  · refine ⟨.inl h.its.1, fun k hk => .inl (h.its.2.1 k hk), fun k hk => .inl (h.its.2.2.1 k hk), fun y hy k hk => ?_⟩
    obtain ⟨j, hj⟩ := List.mem_iff_getElem?.1 hy
    rcases hset j y hj with ⟨rfl, rfl⟩ | ⟨_, hy2⟩
    · exact .inr hk
    · exact .inl (h.its.2.2.2 y (List.mem_of_getElem? hy2) k hk)
  · intro k hk
    rcases hk with q | q
    · exact Nat.lt_of_lt_of_le (h.lt k q) hs
    · exact hl.lt k q
/-- A port was added. -/
theorem dem_added (h : Dem w S db v1 v2 ls st) {p : Pt} (hpl : p.ls = []) {u1 u2 : Value} (hblk : w'.heap[db]? = some (.cells #[u1, u2] 75 (0, 0)))
    (hP : RowK k50 50 w' u1 (st.map pOf ++ [pOf p])) (hL : RowK kSl 31 w' u2 (ls ++ [⟨none, 0, 0⟩])) (hs : w.heap.size ≤ w'.heap.size)
    (hfr : ∀ k, k < w.heap.size → k ≠ db → v1.ownBlock ≠ some k → v2.ownBlock ≠ some k → w'.heap[k]? = w.heap[k]?) :
    Dem w' (fun k => S k ∨ u1.ownBlock = some k ∨ u2.ownBlock = some k) db u1 u2 (ls ++ [⟨none, 0, 0⟩]) (st ++ [p]) where
  blk := hblk
  rowP := by rw [List.map_append]; exact hP
  rowL := hL
  len := by rw [List.length_append, List.length_append, h.len]; rfl
  like := by
    intro i q y hq hy
    obtain ⟨t1, t2, t3⟩ := h.types
    by_cases hi : i < st.length
    · rw [List.getElem?_append_left hi] at hq
      rw [List.getElem?_append_left (by rw [h.len]; exact hi)] at hy
      refine (h.like i q y hq hy).keep (fun k hk => ?_)
      obtain ⟨⟨cs, hc⟩, hlt⟩ := t3 i y hy k hk
      refine hfr k hlt (typed_ne hc h.blk (by decide)) (fun e => ?_) (fun e => ?_)
      · obtain ⟨cs', hc'⟩ := t1 k e
        exact typed_ne hc hc' (by decide) rfl
      · obtain ⟨cs', hc'⟩ := t2 k e
        exact typed_ne hc hc' (by decide) rfl
    · rw [List.getElem?_append_right (by omega)] at hq
      rw [List.getElem?_append_right (by rw [h.len]; omega)] at hy
      rw [List.mem_singleton.1 (List.mem_of_getElem? hq), List.mem_singleton.1 (List.mem_of_getElem? hy), hpl]
      exact RL.nil _
  sep := by
    intro i j y z hne hy hz k hk
    by_cases hi : i < ls.length
    · rw [List.getElem?_append_left hi] at hy
      by_cases hj : j < ls.length
      · rw [List.getElem?_append_left hj] at hz
        exact h.sep i j y z hne hy hz k hk
      · rw [List.getElem?_append_right (by omega)] at hz
        rw [List.mem_singleton.1 (List.mem_of_getElem? hz)]
        intro q; simp [sv, Value.ownBlock] at q
    · rw [List.getElem?_append_right (by omega)] at hy
      rw [List.mem_singleton.1 (List.mem_of_getElem? hy)] at hk
      simp [sv, Value.ownBlock] at hk
  its := ⟨.inl h.its.1, fun k hk => .inr (.inl hk), fun k hk => .inr (.inr hk), fun y hy k hk => by
    rcases List.mem_append.1 hy with q | q
    · exact .inl (h.its.2.2.2 y q k hk)
    · rw [List.mem_singleton.1 q] at hk
      simp [sv, Value.ownBlock] at hk⟩
  lt := fun k hk => by
    rcases hk with q | q | q
    · exact Nat.lt_of_lt_of_le (h.lt k q) hs
    · exact hP.lt k q
    · exact hL.lt k q
end
/-- A step of the document's was done. -/
def DStepped (w w' : World) (S : Nat → Prop) (db : Nat) (st : St) : Prop := ∃ S' v1 v2 ls, Dem w' S' db v1 v2 ls st ∧ (∀ k, S' k → S k ∨ w.heap.size ≤ k) ∧ Fr S w w'
theorem DStepped.same {w w' : World} {S : Nat → Prop} {db : Nat} {v1 v2 : Value} {ls : List Sl} {st : St} (h : Dem w S db v1 v2 ls st) (hb : Below w.heap.size w w') : DStepped w w' S db st :=
  ⟨S, v1, v2, ls, h.below hb, fun k hk => .inl hk, Fr.of_below hb⟩
theorem DStepped.pre {w w1 w' : World} {S : Nat → Prop} {db : Nat} {st' : St} (hb : Below w.heap.size w w1) (h : DStepped w1 w' S db st') : DStepped w w' S db st' := by
  obtain ⟨S', v1, v2, ls, h1, h2, h3⟩ := h
  refine ⟨S', v1, v2, ls, h1, fun k hk => ?_, (Fr.of_below hb).trans h3 (fun k hk => .inl hk)⟩
  have := hb.size
  rcases h2 k hk with q | q
  · exact .inl q
  · exact .inr (by omega)
def DHas (w : World) (B : Nat) (X : Nat → Prop) (db : Nat) (st : St) : Prop := ∃ S v1 v2 ls, Dem w S db v1 v2 ls st ∧ ∀ k, S k → B ≤ k ∧ ¬ X k
theorem DHas.below {w w1 : World} {B db : Nat} {X : Nat → Prop} {st : St} (h : DHas w B X db st) (hb : Below w.heap.size w w1) : DHas w1 B X db st := by
  obtain ⟨S, v1, v2, ls, h1, h2⟩ := h
  exact ⟨S, v1, v2, ls, h1.below hb, h2⟩
theorem DHas.stepped {w w' : World} {B db : Nat} {X S : Nat → Prop} {st' : St} (hS : ∀ k, S k → B ≤ k ∧ ¬ X k) (hX : ∀ k, X k → k < w.heap.size) (hB : B ≤ w.heap.size) (h : DStepped w w' S db st') : DHas w' B X db st' ∧ Below B w w' ∧ ∀ k, X k → w'.heap[k]? = w.heap[k]? := by
  obtain ⟨S', v1, v2, ls, h1, h2, h3⟩ := h
  refine ⟨⟨S', v1, v2, ls, h1, fun k hk => ?_⟩, h3.below (Below.refl _ _) hB (fun k hk => (hS k hk).1), fun k hk => h3.block k (hX k hk) (fun q => (hS k q).2 hk)⟩
  rcases h2 k hk with q | q
  · exact hS k q
  · exact ⟨by omega, fun z => by have := hX k z; omega⟩
end Go.Proofs.Ytefbcigccfkkgaa.WIf
