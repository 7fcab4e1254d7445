/-
  A set of ports as plain data: who is near, whence one speaks. Conditions: those of each theorem.
-/
import Derived.Test.YtefbcigccfkkgaaWIfaceB
set_option linter.unusedVariables false
set_option linter.unusedSimpArgs false
namespace Go.Proofs.Ytefbcigccfkkgaa.WIf
open Go.RowKit Go.Maps Go.WideMaps Go.Proofs.Ytefbcigccfkkgaa.PBase Go.Proofs.YtefbcigccfkkgaaW.PrintWords Go.Proofs.YtefbcigccfkkgaaW.PrintLast Go.Proofs.YtefbcigccfkkgaaW.PrintMore Go.Proofs.Ytefbcigccfkkgaa.If
theorem cut_six {t : Bool} {h l n : Int} {c : Bool × Int × Int} (hc : prefix_cut.f t h l n = some c) : c.1 = t := by
  unfold prefix_cut.f at hc
  cases t with
  | true =>
    rw [if_pos rfl] at hc
    obtain ⟨a, _, hc⟩ := Option.bind_eq_some_iff.1 hc
    obtain ⟨b, _, hc⟩ := Option.bind_eq_some_iff.1 hc
    rw [← Option.some.inj hc]
  | false =>
    rw [if_neg (by decide)] at hc
    obtain ⟨a, _, hc⟩ := Option.bind_eq_some_iff.1 hc
    rw [← Option.some.inj hc]
theorem of_ok {t : Bool} {h l n : Int} {q : Bool × Int × Int × Int × Int} (hq : prefix_Of.f t h l n = some q) (h0 : q.2.2.2.2 = 0) : q.1 = t ∧ q.2.2.2.1 = n := by
  unfold prefix_Of.f at hq
  rw [valid_some, width_some] at hq
  obtain ⟨c, hc⟩ := cut_some t h l n
  simp only [Option.bind_some, hc] at hq
  generalize (if t = true then (128 : Int) else 32) = wd at hq
  have bad : ∀ {x : Bool × Int × Int × Int × Int}, some (false, (0 : Int), (0 : Int), (0 : Int), (1 : Int)) = some x → x.2.2.2.2 = 0 → False := fun e z => by rw [← Option.some.inj e] at z; exact absurd z (by decide)
  split at hq
  · split at hq
    · exact (bad hq h0).elim
    · split at hq
      · exact (bad hq h0).elim
      · rw [← Option.some.inj hq]
        exact ⟨cut_six hc, rfl⟩
  · exact (bad hq h0).elim
theorem may_of {a : Ad} {bits : Int} (h : mayB a bits = true) : ∃ q, prefix_Of.f a.f0 a.f1 a.f2 bits = some q ∧ q.2.2.2.2 = 0 ∧ 0 < bits := by
  obtain ⟨q, hq⟩ := of_some' a.f0 a.f1 a.f2 bits
  refine ⟨q, hq, ?_⟩
  have hm := may_some a bits
  rw [h] at hm
  unfold iface_may.f at hm
  obtain ⟨c, hc⟩ := class_some a.f0 a.f1 a.f2
  simp only [hc, hq, Option.bind_some] at hm
  have e : ∀ {z : Bool}, some z = some true → z = true := fun e => Option.some.inj e
  split at hm
  · split at hm
    · rename_i h5
      exact ⟨h5, by have := e hm; simpa using this⟩
    · exact absurd (e hm) (by decide)
  · split at hm
    · split at hm
      · rename_i h5
        exact ⟨h5, by have := e hm; simpa using this⟩
      · exact absurd (e hm) (by decide)
    · exact absurd (e hm) (by decide)
theorem holds_six {t : Bool} {x y n : Int} {t' : Bool} {h l : Int} (hh : prefix_Holds.f t x y n t' h l = some true) : t = t' := by
  unfold prefix_Holds.f at hh
  obtain ⟨v, hv⟩ := pvalid_some t x y n
  rw [hv, valid_some] at hh
  simp only [Option.bind_some] at hh
  have bad : some false = some true → False := fun e => absurd (Option.some.inj e) (by decide)
  split at hh
  · split at hh
    · split at hh
      · rename_i e; simpa using e
      · exact (bad hh).elim
    · exact (bad hh).elim
  · exact (bad hh).elim
theorem holdsB_six {l : Lo} {a : Ad} (hm : mayB l.f0 l.f1 = true) (hh : holdsB l a = true) : l.f0.f0 = a.f0 := by
  obtain ⟨q, hq, h0, _⟩ := may_of hm
  obtain ⟨q1, q2, q3, q4, q5⟩ := q
  obtain ⟨e1, e2⟩ := of_ok hq h0
  unfold holdsB at hh
  rw [hq] at hh
  simp only [Option.bind_some] at hh
  obtain ⟨r, hr⟩ := holds_some q1 q2 q3 q4 a.f0 a.f1 a.f2
  rw [hr] at hh
  have hr1 : r = true := hh
  rw [hr1] at hr
  have h6 := holds_six hr
  simp only at e1
  rw [← e1, h6]
theorem best_from {ls : List Lo} {a : Ad} : ∀ (r : List Lo) (o : Lo), (∀ l ∈ r, l ∈ ls) → (o = zeroL ∨ (o ∈ ls ∧ holdsB o a = true)) → (r.foldl (bestF a) o = zeroL ∨ (r.foldl (bestF a) o ∈ ls ∧ holdsB (r.foldl (bestF a) o) a = true)) := by
  intro r
  induction r with
  | nil => intro o _ h; exact h
  | cons l r ih =>
    intro o hr ho
    rw [List.foldl_cons]
    refine ih _ (fun m hm => hr m (List.mem_cons_of_mem _ hm)) ?_
    unfold bestF
    split
    · rename_i c
      exact .inr ⟨hr l (List.mem_cons_self ..), c.2⟩
    · exact ho
theorem best_mem {ls : List Lo} {a : Ad} (h : (best ls a).f1 > 0) : best ls a ∈ ls ∧ holdsB (best ls a) a = true := by
  rcases best_from (ls := ls) (a := a) ls zeroL (fun _ q => q) (.inl rfl) with q | q
  · unfold best at h
    rw [q] at h
    exact absurd h (by decide)
  · exact q
def anyB (L : List Lo) (six : Bool) : Bool := L.any fun l => l.f0.f0 == six
theorem fam_any {L : List Lo} {six : Bool} : famN L six = none ↔ anyB L six = false := by
  unfold famN anyB
  rw [List.find?_eq_none, List.any_eq_false]
/-- What the statement asks of a source. -/
structure Spoke (st : St) (n : Int) (a : Ad) (r : Ad × Bool) (L : List Lo) : Prop where mk ::
  (yes : r.2 = true → mine st r.1 = n ∧ r.1.f0 = a.f0 ∧ anyB L a.f0 = true)
  (no : r.2 = false → r.1 = zeroA)
  (none : r.2 = false → anyB L a.f0 = true → validB a = false)
  (few : L.length ≤ 8)
theorem spoke {st : St} (h : Inv st) (n : Int) (a : Ad) : Spoke st n a (source st n a) (locals st n) := by
  cases hn : at? st n with
  | none =>
    have e1 : source st n a = (zeroA, false) := by unfold source; rw [hn]
    have e2 : locals st n = [] := by unfold locals; rw [hn]
    rw [e1, e2]
    exact ⟨(fun q => by cases q), (fun _ => rfl), (fun _ q => by cases q), by simp⟩
  | some i =>
    obtain ⟨hi, hni⟩ := at_lt hn
    have hp : st[i]? = some st[i] := List.getElem?_eq_getElem hi
    have hl : (st[i]?.map (·.ls)).getD [] = st[i].ls := by rw [hp]; rfl
    have e2 : locals st n = st[i].ls := by unfold locals; simp only [hn]; exact hl
    have hm := List.mem_of_getElem? hp
    have hmine : ∀ l ∈ st[i].ls, mine st l.f0 = n := fun l hl => by
      unfold mine
      rw [h.owns i st[i] hp l hl]
      exact hni.symm
    rw [e2]
    cases hva : validB a with
    | false =>
      have e1 : source st n a = (zeroA, false) := by unfold source; simp only [hn, hva, if_pos]
      rw [e1]
      exact ⟨(fun q => by cases q), (fun _ => rfl), (fun _ _ => hva), (h.rows _ hm).1⟩
    | true =>
      have e1 : source st n a = srcR (best st[i].ls a) (famN st[i].ls a.f0) := by
        unfold source srcR
        simp only [hn, hva, hl, Bool.true_eq_false, if_false]
        rfl
      rw [e1]
      unfold srcR
      have few := (h.rows _ hm).1
      by_cases hb : (best st[i].ls a).f1 > 0
      · rw [if_pos hb]
        obtain ⟨b1, b2⟩ := best_mem hb
        have h6 := holdsB_six ((h.rows _ hm).2 _ b1).1 b2
        refine ⟨(fun _ => ⟨hmine _ b1, h6, ?_⟩), (fun q => by cases q), (fun q => by cases q), few⟩
        unfold anyB
        rw [List.any_eq_true]
        exact ⟨_, b1, by simpa using h6⟩
      · rw [if_neg hb]
        cases hf : famN st[i].ls a.f0 with
        | none =>
          have := fam_any.1 hf
          exact ⟨(fun q => by cases q), (fun _ => rfl), (fun _ q => by rw [this] at q; cases q), few⟩
        | some l =>
          have hmem : l ∈ st[i].ls := by unfold famN at hf; exact List.mem_of_find?_eq_some hf
          have h6 : l.f0.f0 = a.f0 := by unfold famN at hf; simpa using List.find?_some hf
          refine ⟨(fun _ => ⟨hmine _ hmem, h6, ?_⟩), (fun q => by cases q), (fun q => by cases q), few⟩
          unfold anyB
          rw [List.any_eq_true]
          exact ⟨_, hmem, by simpa using h6⟩
/-! Who is near. -/
theorem nearAt_is {a : Ad} {st : St} : ∀ i, i ≤ st.length → nearAt a st i = (0, 0) ∨ ∃ k p, k < i ∧ st[k]? = some p ∧ p.up = true ∧ (best p.ls a).f1 > 0 ∧ nearAt a st i = ((k : Int) + 1, (best p.ls a).f1) := by
  intro i
  induction i with
  | zero => intro _; exact .inl rfl
  | succ i ih =>
    intro hi
    obtain ⟨p, hp⟩ : ∃ p, st[i]? = some p := ⟨_, List.getElem?_eq_getElem (by omega)⟩
    rw [nearAt_succ hp]
    split
    · rename_i c
      exact .inr ⟨i, p, by omega, hp, c.2.1, c.1, rfl⟩
    · rcases ih (by omega) with q | ⟨k, p', h1, h2⟩
      · exact .inl q
      · exact .inr ⟨k, p', by omega, h2⟩
theorem near_eq (a : Ad) (st : St) : near st a = (nearAt a st st.length).1 := rfl
theorem near_some {a : Ad} {st : St} : near st a = 0 ∨ ∃ (k : Nat) (p : Pt), st[k]? = some p ∧ p.up = true ∧ (best p.ls a).f1 > 0 ∧ near st a = (k : Int) + 1 := by
  rcases nearAt_is (a := a) st.length (Nat.le_refl _) with q | ⟨k, p, _, h2, h3, h4, h5⟩
  · left; rw [near_eq, q]
  · right; exact ⟨k, p, h2, h3, h4, by rw [near_eq, h5]⟩
theorem near_down {a : Ad} {st : St} (h : ∀ (j : Nat) p, st[j]? = some p → p.up = false) : near st a = 0 := by
  rcases near_some (a := a) (st := st) with q | ⟨k, p, h1, h2, _⟩
  · exact q
  · rw [h k p h1] at h2; cases h2
theorem near_only {a : Ad} {st : St} {m : Nat} {p : Pt} (hm : st[m]? = some p) (hu : p.up = true) (hb : (best p.ls a).f1 > 0) (h : ∀ (j : Nat) q, st[j]? = some q → j ≠ m → q.up = false) : near st a = (m : Int) + 1 := by
  have hml := (List.getElem?_eq_some_iff.1 hm).1
  have pos : ∀ i, i ≤ st.length → m < i → (nearAt a st i).2 > 0 := by
    intro i
    induction i with
    | zero => intro _ q; omega
    | succ i ih =>
      intro hi hmi
      obtain ⟨q, hq⟩ : ∃ q, st[i]? = some q := ⟨_, List.getElem?_eq_getElem (by omega)⟩
      rw [nearAt_succ hq]
      split
      · rename_i c; exact c.1
      · rename_i c
        by_cases e : i = m
        · subst e
          rw [hm] at hq
          obtain rfl := Option.some.inj hq
          have : ¬ (best p.ls a).f1 > (nearAt a st i).2 := fun z => c ⟨hb, hu, z⟩
          omega
        · exact ih (by omega) (by omega)
  rcases nearAt_is (a := a) st.length (Nat.le_refl _) with q | ⟨k, p', _, h2, h3, h4, h5⟩
  · have := pos st.length (Nat.le_refl _) hml
    rw [q] at this
    exact absurd this (by decide)
  · rw [near_eq, h5]
    by_cases e : k = m
    · rw [e]
    · rw [h k p' h2 e] at h3; cases h3
/-- All ports but n's are turned down, up to the k-th. -/
def downs (st : St) (n : Int) : Nat → St
  | 0 => st
  | k + 1 => if (k : Int) + 1 ≠ n then (turn (downs st n k) ((k : Int) + 1) false).1 else downs st n k
theorem downs_len (st : St) (n : Int) : ∀ k, (downs st n k).length = st.length := by
  intro k
  induction k with
  | zero => rfl
  | succ k ih =>
    unfold downs
    split
    · unfold turn
      split
      · exact ih
      · rw [List.length_modify]; exact ih
    · exact ih
theorem turn_get (st : St) (k : Nat) (j : Nat) : ((turn st ((k : Int) + 1) false).1)[j]? = if j = k then (st[j]?).map (fun p => { p with up := false }) else st[j]? := by
  unfold turn at?
  by_cases h : k < st.length
  · rw [if_neg (by omega)]
    simp only
    rw [mod_get, show ((k : Int) + 1 - 1).toNat = k by omega]
    by_cases e : j = k
    · rw [if_pos e.symm, if_pos e]
    · rw [if_neg (fun z => e z.symm), if_neg e]
  · rw [if_pos (.inr (by omega))]
    simp only
    by_cases e : j = k
    · rw [if_pos e, List.getElem?_eq_none (by omega)]; rfl
    · rw [if_neg e]
theorem downs_get (st : St) (n : Int) : ∀ (k j : Nat), (downs st n k)[j]? = if j < k ∧ (j : Int) + 1 ≠ n then (st[j]?).map (fun p => { p with up := false }) else st[j]? := by
  intro k
  induction k with
  | zero => intro j; rw [if_neg (by omega)]; rfl
  | succ k ih =>
    intro j
    unfold downs
    by_cases hk : (k : Int) + 1 ≠ n
    · rw [if_pos hk, turn_get]
      by_cases e : j = k
      · subst e
        rw [if_pos rfl, ih, if_neg (by omega), if_pos ⟨by omega, hk⟩]
      · rw [if_neg e, ih]
        by_cases c : j < k ∧ (j : Int) + 1 ≠ n
        · rw [if_pos c, if_pos ⟨by omega, c.2⟩]
        · rw [if_neg c, if_neg (fun z => c ⟨by omega, z.2⟩)]
    · rw [if_neg hk, ih]
      by_cases c : j < k ∧ (j : Int) + 1 ≠ n
      · rw [if_pos c, if_pos ⟨by omega, c.2⟩]
      · rw [if_neg c, if_neg (fun z => c ⟨by omega, z.2⟩)]
theorem inv_downs {st : St} (h : Inv st) (n : Int) : ∀ k, Inv (downs st n k) := by
  intro k
  induction k with
  | zero => exact h
  | succ k ih =>
    unfold downs
    split
    · exact inv_turn ih _ _
    · exact ih
/-- What the statement asks of who is near. -/
structure Nigh (st : St) (a : Ad) (n : Int) : Prop where mk ::
  (up : n > 0 → (portR st n).1.f3 = true ∧ (locals st n).length ≠ 0)
  (ge : 0 ≤ n)
  (still : near (downs st n 8) a = n)
  (gone : near (turn (downs st n 8) n false).1 a = 0)
theorem nigh {st : St} (h : Inv st) (a : Ad) : Nigh st a (near st a) := by
  have h8 := h.few
  rcases near_some (a := a) (st := st) with q | ⟨k, p, h1, h2, h3, h4⟩
  · rw [q]
    have hdown : ∀ (j : Nat) p, (downs st 0 8)[j]? = some p → p.up = false := fun j p hp => by
      have hj : j < st.length := by rw [← downs_len st 0 8]; exact (List.getElem?_eq_some_iff.1 hp).1
      rw [downs_get, if_pos ⟨by omega, by omega⟩] at hp
      obtain ⟨q, _, rfl⟩ := Option.map_eq_some_iff.1 hp
      rfl
    refine ⟨(fun z => absurd z (by decide)), by decide, near_down hdown, ?_⟩
    have e : turn (downs st 0 8) 0 false = (downs st 0 8, 132) := by unfold turn at?; rw [if_pos (.inl (by decide))]
    rw [e]
    exact near_down hdown
  · rw [h4]
    have hkl := (List.getElem?_eq_some_iff.1 h1).1
    have hn : at? st ((k : Int) + 1) = some k := by unfold at?; rw [if_neg (by omega)]; exact congrArg some (by omega)
    have hlo : locals st ((k : Int) + 1) = p.ls := by unfold locals; simp only [hn, h1]; rfl
    have hpr : portR st ((k : Int) + 1) = (⟨p.nm, p.mac, p.mtu, p.up⟩, true) := by unfold portR; simp only [hn, h1]
    have hk : (downs st ((k : Int) + 1) 8)[k]? = some p := by rw [downs_get, if_neg (fun z => z.2 rfl)]; exact h1
    have hoth : ∀ (j : Nat) q, (downs st ((k : Int) + 1) 8)[j]? = some q → j ≠ k → q.up = false := fun j q hq hj => by
      have hjl : j < st.length := by rw [← downs_len st ((k : Int) + 1) 8]; exact (List.getElem?_eq_some_iff.1 hq).1
      rw [downs_get, if_pos ⟨by omega, by omega⟩] at hq
      obtain ⟨r, _, rfl⟩ := Option.map_eq_some_iff.1 hq
      rfl
    refine ⟨fun _ => ⟨by rw [hpr]; exact h2, ?_⟩, by omega, near_only hk h2 h3 hoth, near_down (fun j q hq => ?_)⟩
    · rw [hlo]
      intro z
      have hm := (best_mem h3).1
      rw [List.length_eq_zero_iff.1 z] at hm
      cases hm
    · rw [turn_get] at hq
      by_cases e : j = k
      · rw [if_pos e] at hq
        obtain ⟨r, _, rfl⟩ := Option.map_eq_some_iff.1 hq
        rfl
      · rw [if_neg e] at hq
        exact hoth j q hq e
end Go.Proofs.Ytefbcigccfkkgaa.WIf
