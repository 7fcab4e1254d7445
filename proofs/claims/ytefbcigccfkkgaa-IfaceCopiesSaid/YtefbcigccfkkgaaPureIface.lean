/-
  A set of ports as plain data: what its methods come to, and what holds of it behind any steps. No program in sight but its Lean functions. Conditions: those of each theorem.
-/
import Derived.Test.YtefbcigccfkkgaaPBasex6
set_option linter.unusedVariables false
set_option linter.unusedSectionVars false
set_option linter.unusedSimpArgs false
namespace Go.Proofs.Ytefbcigccfkkgaa.If
open Go.RowKit Go.Proofs.Ytefbcigccfkkgaa.PBase Go.Proofs.YtefbcigccfkkgaaW.PrintWords Go.Proofs.YtefbcigccfkkgaaW.PrintLast Go.Proofs.YtefbcigccfkkgaaW.PrintMore
abbrev Ad := S25
abbrev Lo := S34
/-- A port. -/
structure Pt where
  nm : ByteArray
  mac : Int
  mtu : Int
  up : Bool
  ls : List Lo
abbrev St := List Pt
def eqA (a b : Ad) : Bool := a.f0 == b.f0 && (a.f1 == b.f1 && (a.f2 == b.f2))
theorem eqA_iff {a b : Ad} : eqA a b = true ↔ a = b := by
  cases a; cases b; simp [eqA]
theorem eqA_self (a : Ad) : eqA a a = true := eqA_iff.2 rfl
/-- Where an address stands among locals. -/
def place : List Lo → Ad → Option Nat
  | [], _ => none
  | l :: r, a => if eqA l.f0 a = true then some 0 else (place r a).map (· + 1)
def mineN : St → Ad → Option Nat
  | [], _ => none
  | p :: r, a => if (place p.ls a).isSome then some 0 else (mineN r a).map (· + 1)
def namedN : St → ByteArray → Option Nat
  | [], _ => none
  | p :: r, s => if p.nm.toList == s.toList then some 0 else (namedN r s).map (· + 1)
def num : Option Nat → Int
  | none => 0
  | some i => i + 1
def mine (st : St) (a : Ad) : Int := num (mineN st a)
def named (st : St) (s : ByteArray) : Int := num (namedN st s)
/-- The place of a port's number. -/
def at? (st : St) (n : Int) : Option Nat := if n < 1 ∨ n > st.length then none else some (n - 1).toNat
/-- May a text be a name? -/
def low (b : Int) : Bool := decide (97 ≤ b ∧ b ≤ 122)
def dig (b : Int) : Bool := decide (48 ≤ b ∧ b ≤ 57)
def nameB (s : ByteArray) : Bool := (decide (1 ≤ s.size ∧ s.size ≤ 8)) && ((List.range s.size).all fun i => low (bt s i) || (decide (0 < i) && dig (bt s i)))
def addBad (mac mtu : Int) : Bool := mac == 0 || decide (281474976710656 ≤ mac) || mac / 1099511627776 % 2 == 1 || decide (mtu < 68) || decide (1500 < mtu)
def add (st : St) (s : ByteArray) (mac mtu : Int) : St × Int × Int :=
  if nameB s = false ∨ named st s ≠ 0 then (st, 0, 130) else if addBad mac mtu = true then (st, 0, 1) else if st.length = 8 then (st, 0, 131) else (st ++ [⟨s, mac, mtu, false, []⟩], st.length + 1, 0)
def turn (st : St) (n : Int) (up : Bool) : St × Int :=
  match at? st n with
  | none => (st, 132)
  | some i => (st.modify i fun p => { p with up := up }, 0)
def mayB (a : Ad) (bits : Int) : Bool := (iface_may.f a.f0 a.f1 a.f2 bits).getD false
def putBad (st : St) (i : Nat) (a : Ad) (bits : Int) : Bool := mayB a bits == false || mine st a != 0 || (a.f0 && decide ((st[i]?.map (·.mtu)).getD 0 < 1280))
def put (st : St) (n : Int) (a : Ad) (bits : Int) : St × Int :=
  match at? st n with
  | none => (st, 132)
  | some i => if putBad st i a bits = true then (st, 133) else if (st[i]?.map (·.ls.length)).getD 0 = 8 then (st, 131) else (st.modify i fun p => { p with ls := p.ls ++ [⟨a, bits⟩] }, 0)
def drop (st : St) (n : Int) (a : Ad) : St × Int :=
  match at? st n with
  | none => (st, 132)
  | some i => match place ((st[i]?.map (·.ls)).getD []) a with
    | none => (st, 132)
    | some k => (st.modify i fun p => { p with ls := p.ls.eraseIdx k }, 0)
def locals (st : St) (n : Int) : List Lo := match at? st n with | none => [] | some i => (st[i]?.map (·.ls)).getD []
/-- Does a local's prefix hold an address? -/
def holdsB (l : Lo) (a : Ad) : Bool := ((prefix_Of.f l.f0.f0 l.f0.f1 l.f0.f2 l.f1).bind fun q => prefix_Holds.f q.1 q.2.1 q.2.2.1 q.2.2.2.1 a.f0 a.f1 a.f2).getD false
def zeroL : Lo := ⟨⟨false, 0, 0⟩, 0⟩
def bestF (a : Ad) (out : Lo) (l : Lo) : Lo := if l.f1 > out.f1 ∧ holdsB l a = true then l else out
def best (ls : List Lo) (a : Ad) : Lo := ls.foldl (bestF a) zeroL
def nearF (a : Ad) (st : St) (o : Int × Int) (i : Nat) : Int × Int :=
  match st[i]? with
  | none => o
  | some p => if (best p.ls a).f1 > 0 ∧ p.up = true ∧ (best p.ls a).f1 > o.2 then (i + 1, (best p.ls a).f1) else o
def near (st : St) (a : Ad) : Int := ((List.range st.length).foldl (nearF a st) (0, 0)).1
def validB (a : Ad) : Bool := a.f0 || (a.f1 == 0 && decide (a.f2 < 4294967296))
def famN (ls : List Lo) (six : Bool) : Option Lo := ls.find? fun l => l.f0.f0 == six
def zeroA : Ad := ⟨false, 0, 0⟩
def source (st : St) (n : Int) (dst : Ad) : Ad × Bool :=
  match at? st n with
  | none => (zeroA, false)
  | some i => if validB dst = false then (zeroA, false) else
    if (best ((st[i]?.map (·.ls)).getD []) dst).f1 > 0 then ((best ((st[i]?.map (·.ls)).getD []) dst).f0, true) else
    match famN ((st[i]?.map (·.ls)).getD []) dst.f0 with
    | some l => (l.f0, true)
    | none => (zeroA, false)
/-- A step. -/
structure Sp where
  what : Int
  name : ByteArray
  mac : Int
  n : Int
  port : Int
  up : Bool
  addr : Ad
def step (st : St) (x : Sp) : St × Int × Int :=
  if x.what % 8 = 0 then add st x.name x.mac x.n else if x.what % 8 = 1 then ((turn st x.port x.up).1, 0, (turn st x.port x.up).2) else
  if x.what % 8 = 5 then ((drop st x.port x.addr).1, 0, (drop st x.port x.addr).2) else ((put st x.port x.addr x.n).1, 0, (put st x.port x.addr x.n).2)
def run (st : St) : List Sp → St
  | [] => st
  | x :: r => run (step st x).1 r
/-! What holds of it. -/
structure Inv (st : St) : Prop where mk ::
  (few : st.length ≤ 8)
  (rows : ∀ p ∈ st, p.ls.length ≤ 8 ∧ ∀ l ∈ p.ls, mayB l.f0 l.f1 = true ∧ (l.f0.f0 = true → 1280 ≤ p.mtu))
  (names : ∀ i p, st[i]? = some p → namedN st p.nm = some i)
  (owns : ∀ i p, st[i]? = some p → ∀ l ∈ p.ls, mineN st l.f0 = some i)
  (apart : ∀ p ∈ st, p.ls.Pairwise fun x y => x.f0 ≠ y.f0)

theorem place_none {ls : List Lo} {a : Ad} : place ls a = none ↔ ∀ l ∈ ls, l.f0 ≠ a := by
  induction ls with
  | nil => simp [place]
  | cons l r ih =>
    unfold place
    by_cases h : eqA l.f0 a = true
    · rw [if_pos h]
      simp [eqA_iff.1 h]
    · rw [if_neg h, Option.map_eq_none_iff, ih]
      have h2 : l.f0 ≠ a := fun q => h (eqA_iff.2 q)
      simp [h2]
theorem place_some {a : Ad} : ∀ {ls : List Lo} {k : Nat}, place ls a = some k → ∃ l, ls[k]? = some l ∧ l.f0 = a := by
  intro ls
  induction ls with
  | nil => intro k h; simp [place] at h
  | cons l r ih =>
    intro k h
    unfold place at h
    by_cases c : eqA l.f0 a = true
    · rw [if_pos c] at h
      obtain rfl := Option.some.inj h
      exact ⟨l, rfl, eqA_iff.1 c⟩
    · rw [if_neg c] at h
      obtain ⟨j, hj, rfl⟩ := Option.map_eq_some_iff.1 h
      obtain ⟨m, h1, h2⟩ := ih hj
      exact ⟨m, by simpa using h1, h2⟩
theorem place_lt {a : Ad} {ls : List Lo} {k : Nat} (h : place ls a = some k) : k < ls.length := by
  obtain ⟨l, h1, _⟩ := place_some h
  exact (List.getElem?_eq_some_iff.1 h1).1
theorem place_isSome {ls : List Lo} {a : Ad} : (place ls a).isSome = true ↔ ∃ l ∈ ls, l.f0 = a := by
  cases h : place ls a with
  | none =>
    have := place_none.1 h
    simp only [Option.isSome_none, Bool.false_eq_true, false_iff]
    rintro ⟨l, h1, h2⟩
    exact this l h1 h2
  | some k =>
    obtain ⟨l, h1, h2⟩ := place_some h
    simp only [Option.isSome_some, true_iff]
    exact ⟨l, List.mem_of_getElem? h1, h2⟩
theorem place_bool (ls ls' : List Lo) (a : Ad) (h : (∃ l ∈ ls, l.f0 = a) ↔ ∃ l ∈ ls', l.f0 = a) : (place ls a).isSome = (place ls' a).isSome := by
  rw [Bool.eq_iff_iff, place_isSome, place_isSome]; exact h
theorem mine_cons (p : Pt) (r : St) (a : Ad) : mineN (p :: r) a = if (place p.ls a).isSome = true then some 0 else (mineN r a).map (· + 1) := rfl
theorem mine_none {st : St} {a : Ad} : mineN st a = none ↔ ∀ p ∈ st, ∀ l ∈ p.ls, l.f0 ≠ a := by
  induction st with
  | nil => simp [mineN]
  | cons p r ih =>
    rw [mine_cons]
    by_cases h : (place p.ls a).isSome = true
    · rw [if_pos h]
      obtain ⟨l, h1, h2⟩ := place_isSome.1 h
      simp only [reduceCtorEq, false_iff]
      intro q
      exact q p (List.mem_cons_self ..) l h1 h2
    · rw [if_neg h, Option.map_eq_none_iff, ih]
      have h2 : ∀ l ∈ p.ls, l.f0 ≠ a := fun l hl e => h (place_isSome.2 ⟨l, hl, e⟩)
      simp only [List.mem_cons, forall_eq_or_imp]
      exact ⟨fun q => ⟨h2, q⟩, fun q => q.2⟩
theorem mine_some {a : Ad} : ∀ {st : St} {i : Nat}, mineN st a = some i → ∃ p, st[i]? = some p ∧ ∃ l ∈ p.ls, l.f0 = a := by
  intro st
  induction st with
  | nil => intro i h; simp [mineN] at h
  | cons p r ih =>
    intro i h
    rw [mine_cons] at h
    by_cases c : (place p.ls a).isSome = true
    · rw [if_pos c] at h
      obtain rfl := Option.some.inj h
      exact ⟨p, rfl, place_isSome.1 c⟩
    · rw [if_neg c] at h
      obtain ⟨j, hj, rfl⟩ := Option.map_eq_some_iff.1 h
      obtain ⟨q, h1, h2⟩ := ih hj
      exact ⟨q, by simpa using h1, h2⟩
theorem mine_app (st : St) (p : Pt) (hp : p.ls = []) (a : Ad) : mineN (st ++ [p]) a = mineN st a := by
  induction st with
  | nil => simp [mineN, hp, place]
  | cons q r ih => rw [List.cons_append, mine_cons, mine_cons, ih]
theorem named_cons (p : Pt) (r : St) (s : ByteArray) : namedN (p :: r) s = if (p.nm.toList == s.toList) = true then some 0 else (namedN r s).map (· + 1) := rfl
theorem named_app (st : St) (p : Pt) (s : ByteArray) : namedN (st ++ [p]) s = match namedN st s with | some i => some i | none => if (p.nm.toList == s.toList) = true then some st.length else none := by
  induction st with
  | nil => simp [namedN]
  | cons q r ih =>
    rw [List.cons_append, named_cons, named_cons, ih]
    by_cases c : (q.nm.toList == s.toList) = true
    · rw [if_pos c, if_pos c]
    · rw [if_neg c, if_neg c]
      cases h : namedN r s with
      | none =>
        simp only [Option.map_none]
        by_cases d : (p.nm.toList == s.toList) = true
        · rw [if_pos d, if_pos d]; rfl
        · rw [if_neg d, if_neg d]; rfl
      | some i => rfl
theorem named_modify (f : Pt → Pt) (s : ByteArray) : ∀ (st : St) (i : Nat), (∀ p, (f p).nm = p.nm) → namedN (st.modify i f) s = namedN st s := by
  intro st i hf
  revert i
  induction st with
  | nil => intro i; simp
  | cons p r ih =>
    intro i
    cases i with
    | zero => rw [List.modify_zero_cons, named_cons, named_cons, hf]
    | succ i => rw [List.modify_succ_cons, named_cons, named_cons, ih]
theorem mine_modify (f : Pt → Pt) (a : Ad) : ∀ (st : St) (i : Nat), (∀ p, st[i]? = some p → ((∃ l ∈ (f p).ls, l.f0 = a) ↔ ∃ l ∈ p.ls, l.f0 = a)) → mineN (st.modify i f) a = mineN st a := by
  intro st
  induction st with
  | nil => intro i _; simp
  | cons p r ih =>
    intro i h
    cases i with
    | zero => rw [List.modify_zero_cons, mine_cons, mine_cons, place_bool _ _ a (h p rfl)]
    | succ i => rw [List.modify_succ_cons, mine_cons, mine_cons, ih i (fun q hq => h q (by simpa using hq))]
theorem mine_put (x : Lo) : ∀ (st : St) (i : Nat), i < st.length → mineN st x.f0 = none → mineN (st.modify i fun p => { p with ls := p.ls ++ [x] }) x.f0 = some i := by
  intro st
  induction st with
  | nil => intro i h; simp at h
  | cons p r ih =>
    intro i hi hn
    rw [mine_cons] at hn
    by_cases c : (place p.ls x.f0).isSome = true
    · rw [if_pos c] at hn; cases hn
    · rw [if_neg c, Option.map_eq_none_iff] at hn
      cases i with
      | zero => rw [List.modify_zero_cons, mine_cons, if_pos (place_isSome.2 ⟨x, by simp, rfl⟩)]
      | succ i => rw [List.modify_succ_cons, mine_cons, if_neg c, ih i (by simpa using hi) hn]; rfl
theorem at_lt {st : St} {n : Int} {i : Nat} (h : at? st n = some i) : i < st.length ∧ n = i + 1 := by
  unfold at? at h
  split at h
  · cases h
  · have := Option.some.inj h; omega
theorem mod_get (f : Pt → Pt) (st : St) (i j : Nat) : (st.modify i f)[j]? = if i = j then (st[j]?).map f else st[j]? := by
  rw [List.getElem?_modify]
  split
  · cases st[j]? <;> rfl
  · cases st[j]? <;> rfl
theorem mod_mem {f : Pt → Pt} {st : St} {i : Nat} {q : Pt} (h : q ∈ st.modify i f) : (∃ p, st[i]? = some p ∧ q = f p) ∨ q ∈ st := by
  obtain ⟨j, hj⟩ := List.mem_iff_getElem?.1 h
  rw [mod_get] at hj
  split at hj
  · rename_i e
    subst e
    obtain ⟨p, h1, h2⟩ := Option.map_eq_some_iff.1 hj
    exact .inl ⟨p, h1, h2.symm⟩
  · exact .inr (List.mem_of_getElem? hj)
theorem inv_nil : Inv [] := ⟨by simp, by simp, by simp, by simp, by simp⟩
theorem inv_add {st : St} (h : Inv st) (s : ByteArray) (mac mtu : Int) : Inv (add st s mac mtu).1 := by
  unfold add
  split
  · exact h
  rename_i c
  split
  · exact h
  split
  · exact h
  rename_i c8
  have hn : namedN st s = none := by
    have : named st s = 0 := Decidable.byContradiction fun q => c (.inr q)
    unfold named num at this
    cases e : namedN st s with
    | none => rfl
    | some i => rw [e] at this; simp only at this; omega
  have few := h.few
  refine ⟨by simp only [List.length_append, List.length_cons, List.length_nil]; omega, ?_, ?_, ?_, ?_⟩
  · intro p hp
    rcases List.mem_append.1 hp with q | q
    · exact h.rows p q
    · rw [List.mem_singleton.1 q]; exact ⟨by simp, by simp⟩
  · intro i p hp
    rw [named_app]
    by_cases hi : i < st.length
    · rw [List.getElem?_append_left hi] at hp
      rw [h.names i p hp]
    · rw [List.getElem?_append_right (by omega)] at hp
      have hi2 : i = st.length := by
        have := (List.getElem?_eq_some_iff.1 hp).1
        simp at this; omega
      subst hi2
      simp at hp
      subst hp
      rw [hn]; simp
  · intro i p hp l hl
    rw [mine_app _ _ rfl]
    by_cases hi : i < st.length
    · rw [List.getElem?_append_left hi] at hp
      exact h.owns i p hp l hl
    · rw [List.getElem?_append_right (by omega)] at hp
      have := List.mem_singleton.1 (List.mem_of_getElem? hp)
      subst this
      cases hl
  · intro p hp
    rcases List.mem_append.1 hp with q | q
    · exact h.apart p q
    · rw [List.mem_singleton.1 q]; exact List.Pairwise.nil
theorem inv_turn {st : St} (h : Inv st) (n : Int) (up : Bool) : Inv (turn st n up).1 := by
  unfold turn
  split
  · exact h
  rename_i i hi
  simp only
  refine ⟨by rw [List.length_modify]; exact h.few, ?_, ?_, ?_, ?_⟩
  · intro q hq
    rcases mod_mem hq with ⟨p, h1, rfl⟩ | q1
    · exact h.rows p (List.mem_of_getElem? h1)
    · exact h.rows q q1
  · intro j q hq
    refine Eq.trans (named_modify _ _ _ _ (fun _ => rfl)) ?_
    rw [mod_get] at hq
    split at hq
    · obtain ⟨p, h1, rfl⟩ := Option.map_eq_some_iff.1 hq
      exact h.names j p h1
    · exact h.names j q hq
  · intro j q hq l hl
    refine Eq.trans (mine_modify _ _ _ _ (fun _ _ => Iff.rfl)) ?_
    rw [mod_get] at hq
    split at hq
    · obtain ⟨p, h1, rfl⟩ := Option.map_eq_some_iff.1 hq
      exact h.owns j p h1 l hl
    · exact h.owns j q hq l hl
  · intro q hq
    rcases mod_mem hq with ⟨p, h1, rfl⟩ | q1
    · exact h.apart p (List.mem_of_getElem? h1)
    · exact h.apart q q1
theorem inv_put {st : St} (h : Inv st) (n : Int) (a : Ad) (bits : Int) : Inv (put st n a bits).1 := by
  unfold put
  split
  · exact h
  rename_i i hi
  split
  · exact h
  rename_i c
  split
  · exact h
  rename_i c8
  obtain ⟨hlt, _⟩ := at_lt hi
  obtain ⟨p0, hp0⟩ : ∃ p0, st[i]? = some p0 := ⟨_, List.getElem?_eq_getElem hlt⟩
  unfold putBad at c
  rw [hp0] at c c8
  simp only [Option.map_some, Option.getD_some, Bool.or_eq_true, Bool.and_eq_true, beq_iff_eq, bne_iff_ne, ne_eq, decide_eq_true_eq, not_or, not_and, Decidable.not_not, Bool.not_eq_false] at c c8
  obtain ⟨⟨c1, c2⟩, c3⟩ := c
  have hn : mineN st a = none := by
    unfold mine num at c2
    cases e : mineN st a with
    | none => rfl
    | some i => rw [e] at c2; simp only at c2; omega
  have hno := mine_none.1 hn
  have r0 := h.rows p0 (List.mem_of_getElem? hp0)
  simp only
  refine ⟨by rw [List.length_modify]; exact h.few, ?_, ?_, ?_, ?_⟩
  · intro q hq
    rcases mod_mem hq with ⟨p, h1, rfl⟩ | q1
    · obtain rfl : p0 = p := Option.some.inj (hp0.symm.trans h1)
      refine ⟨by simp only [List.length_append, List.length_cons, List.length_nil]; omega, ?_⟩
      intro l hl
      rcases List.mem_append.1 hl with z | z
      · exact r0.2 l z
      · rw [List.mem_singleton.1 z]
        exact ⟨c1, fun e => by have := c3 e; simp only; omega⟩
    · exact h.rows q q1
  · intro j q hq
    refine Eq.trans (named_modify _ _ _ _ (fun _ => rfl)) ?_
    rw [mod_get] at hq
    split at hq
    · obtain ⟨p, h1, rfl⟩ := Option.map_eq_some_iff.1 hq
      exact h.names j p h1
    · exact h.names j q hq
  · have hold : ∀ b, b ≠ a → mineN (st.modify i fun p => { p with ls := p.ls ++ [⟨a, bits⟩] }) b = mineN st b := fun b hb => mine_modify _ _ _ _ (fun p _ => by
      simp only [List.mem_append, List.mem_singleton]
      constructor
      · rintro ⟨l, h1 | rfl, h2⟩
        · exact ⟨l, h1, h2⟩
        · exact absurd h2.symm hb
      · rintro ⟨l, h1, h2⟩; exact ⟨l, .inl h1, h2⟩)
    intro j q hq l hl
    rw [mod_get] at hq
    split at hq
    · rename_i e
      subst e
      obtain ⟨p, h1, rfl⟩ := Option.map_eq_some_iff.1 hq
      rcases List.mem_append.1 hl with z | z
      · rw [hold _ (hno p (List.mem_of_getElem? h1) l z)]
        exact h.owns i p h1 l z
      · rw [List.mem_singleton.1 z]
        exact mine_put ⟨a, bits⟩ st i hlt hn
    · rw [hold _ (hno q (List.mem_of_getElem? hq) l hl)]
      exact h.owns j q hq l hl
  · intro q hq
    rcases mod_mem hq with ⟨p, h1, rfl⟩ | q1
    · refine List.pairwise_append.2 ⟨h.apart p (List.mem_of_getElem? h1), by simp, ?_⟩
      intro l hl m hm
      rw [List.mem_singleton.1 hm]
      exact hno p (List.mem_of_getElem? h1) l hl
    · exact h.apart q q1
theorem inv_drop {st : St} (h : Inv st) (n : Int) (a : Ad) : Inv (drop st n a).1 := by
  unfold drop
  split
  · exact h
  rename_i i hi
  obtain ⟨hlt, _⟩ := at_lt hi
  obtain ⟨p0, hp0⟩ : ∃ p0, st[i]? = some p0 := ⟨_, List.getElem?_eq_getElem hlt⟩
  rw [hp0]
  simp only [Option.map_some, Option.getD_some]
  split
  · exact h
  rename_i k hk
  obtain ⟨l0, hl0, e0⟩ := place_some hk
  have r0 := h.rows p0 (List.mem_of_getElem? hp0)
  have ap0 := h.apart p0 (List.mem_of_getElem? hp0)
  have hsub : (p0.ls.eraseIdx k).Sublist p0.ls := List.eraseIdx_sublist _ _
  have hne : ∀ l ∈ p0.ls.eraseIdx k, l.f0 ≠ a := by
    intro l hl
    obtain ⟨j, hj⟩ := List.mem_iff_getElem?.1 hl
    rw [List.getElem?_eraseIdx] at hj
    have hk2 := List.getElem?_eq_some_iff.1 hl0
    split at hj
    · rename_i hjk
      obtain ⟨q1, q2⟩ := List.getElem?_eq_some_iff.1 hj
      have := List.pairwise_iff_getElem.1 ap0 j k q1 hk2.1 hjk
      rw [q2, hk2.2, e0] at this
      exact this
    · rename_i hjk
      obtain ⟨q1, q2⟩ := List.getElem?_eq_some_iff.1 hj
      have := List.pairwise_iff_getElem.1 ap0 k (j + 1) hk2.1 q1 (by omega)
      rw [q2, hk2.2, e0] at this
      exact fun z => this z.symm
  have hin : ∀ b, b ≠ a → ((∃ l ∈ p0.ls.eraseIdx k, l.f0 = b) ↔ ∃ l ∈ p0.ls, l.f0 = b) := by
    intro b hb
    constructor
    · rintro ⟨l, h1, h2⟩; exact ⟨l, hsub.subset h1, h2⟩
    · rintro ⟨l, h1, h2⟩
      obtain ⟨j, hj⟩ := List.mem_iff_getElem?.1 h1
      have hjk : j ≠ k := fun e => by
        subst e
        rw [hl0] at hj
        obtain rfl := Option.some.inj hj
        exact hb (h2.symm.trans e0)
      refine ⟨l, List.mem_iff_getElem?.2 ?_, h2⟩
      by_cases q : j < k
      · exact ⟨j, by rw [List.getElem?_eraseIdx, if_pos q]; exact hj⟩
      · exact ⟨j - 1, by rw [List.getElem?_eraseIdx, if_neg (by omega), show j - 1 + 1 = j by omega]; exact hj⟩
  simp only
  refine ⟨by rw [List.length_modify]; exact h.few, ?_, ?_, ?_, ?_⟩
  · intro q hq
    rcases mod_mem hq with ⟨p, h1, rfl⟩ | q1
    · obtain rfl : p0 = p := Option.some.inj (hp0.symm.trans h1)
      exact ⟨Nat.le_trans hsub.length_le r0.1, fun l hl => r0.2 l (hsub.subset hl)⟩
    · exact h.rows q q1
  · intro j q hq
    refine Eq.trans (named_modify _ _ _ _ (fun _ => rfl)) ?_
    rw [mod_get] at hq
    split at hq
    · obtain ⟨p, h1, rfl⟩ := Option.map_eq_some_iff.1 hq
      exact h.names j p h1
    · exact h.names j q hq
  · have hold : ∀ b, b ≠ a → mineN (st.modify i fun p => { p with ls := p.ls.eraseIdx k }) b = mineN st b := fun b hb => mine_modify _ _ _ _ (fun p hp => by
      obtain rfl : p0 = p := Option.some.inj (hp0.symm.trans hp)
      exact hin b hb)
    intro j q hq l hl
    rw [mod_get] at hq
    split at hq
    · rename_i e
      subst e
      obtain ⟨p, h1, rfl⟩ := Option.map_eq_some_iff.1 hq
      obtain rfl : p0 = p := Option.some.inj (hp0.symm.trans h1)
      rw [hold _ (hne l hl)]
      exact h.owns i p0 h1 l (hsub.subset hl)
    · rename_i hij
      have hb : l.f0 ≠ a := fun e => by
        have w1 := h.owns j q hq l hl
        have w2 := h.owns i p0 hp0 l0 (List.mem_of_getElem? hl0)
        rw [e] at w1
        rw [e0] at w2
        exact hij (Option.some.inj (w2.symm.trans w1))
      rw [hold _ hb]
      exact h.owns j q hq l hl
  · intro q hq
    rcases mod_mem hq with ⟨p, h1, rfl⟩ | q1
    · obtain rfl : p0 = p := Option.some.inj (hp0.symm.trans h1)
      exact ap0.sublist hsub
    · exact h.apart q q1
theorem inv_step {st : St} (h : Inv st) (x : Sp) : Inv (step st x).1 := by
  unfold step
  split
  · exact inv_add h _ _ _
  split
  · exact inv_turn h _ _
  split
  · exact inv_drop h _ _
  · exact inv_put h _ _ _
theorem inv_run : ∀ (xs : List Sp) {st : St}, Inv st → Inv (run st xs)
  | [], _, h => h
  | x :: r, _, h => inv_run r (inv_step h x)
end Go.Proofs.Ytefbcigccfkkgaa.If
