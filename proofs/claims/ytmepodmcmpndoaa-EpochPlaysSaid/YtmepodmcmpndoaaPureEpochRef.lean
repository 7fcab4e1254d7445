/-
  The document's epoch as plain data, beside the epoch: all that was ever published. No program in sight. Conditions: those of each theorem.
-/
import Derived.Test.YtmepodmcmpndoaaPureEpoch
set_option linter.unusedVariables false
set_option linter.unusedSimpArgs false
namespace Go.Proofs.Ytmepodmcmpndoaa.Ep
/-- Both hold the same: H is all that was ever published. -/
structure Both (H : List Int) (s : St) : Prop where mk ::
  ok : Ok s
  tight : Tight s
  len : (H.length : Int) = s.new + 1
  all : s.all = H.drop s.given.toNat
  seen : ∀ i, i < s.rd.length → s.rd.getD i 0 ≠ -1 → s.seen.getD i 0 = H.getD (s.rd.getD i 0).toNat 0
/-- Which were given back. -/
def givenOf (n m : Nat) : List Bool := (List.range m).map fun i => decide (i < n)
theorem givenOf_length (n m : Nat) : (givenOf n m).length = m := by simp [givenOf]
theorem givenOf_get (n : Nat) {m i : Nat} (h : i < m) : (givenOf n m).getD i false = decide (i < n) := by
  simp [givenOf, List.getD_eq_getElem?_getD, List.getElem?_map, List.getElem?_range h]
theorem givenOf_snoc (n m : Nat) (h : n ≤ m) : givenOf n m ++ [false] = givenOf n (m + 1) := by
  unfold givenOf
  rw [List.range_succ, List.map_append, List.map_singleton, decide_eq_false (show ¬ m < n by omega)]
theorem givenOf_set (n m : Nat) (h : n < m) : (givenOf n m).set n true = givenOf (n + 1) m := by
  apply List.ext_getElem?
  intro i
  rw [List.getElem?_set]
  by_cases hi : i < m
  · by_cases e : n = i
    · subst e
      rw [if_pos rfl, if_pos (by rw [givenOf_length]; exact hi)]
      simp [givenOf, List.getElem?_map, List.getElem?_range hi]
    · rw [if_neg e]
      simp only [givenOf, List.getElem?_map, List.getElem?_range hi, Option.map_some]
      congr 1
      rw [decide_eq_decide]; omega
  · have e1 : (givenOf n m)[i]? = none := List.getElem?_eq_none (by rw [givenOf_length]; omega)
    have e2 : (givenOf (n + 1) m)[i]? = none := List.getElem?_eq_none (by rw [givenOf_length]; omega)
    rw [e1, e2]
    by_cases e : n = i
    · exact absurd h (by omega)
    · rw [if_neg e]
/-- Does a reader wait for the publication n? -/
def waitsFor (n : Int) (rd : List Int) : Bool := rd.any fun x => decide (0 ≤ x ∧ x ≤ n)
theorem waitsFor_nil (n : Int) : waitsFor n [] = false := rfl
theorem waitsFor_snoc (n : Int) (rd : List Int) (x : Int) : waitsFor n (rd ++ [x]) = (waitsFor n rd || decide (0 ≤ x ∧ x ≤ n)) := by simp [waitsFor]
theorem waitsFor_step {n : Int} {rd : List Int} {k : Nat} (h : k < rd.length) : waitsFor n (rd.take (k + 1)) = (waitsFor n (rd.take k) || decide (0 ≤ rd.getD k 0 ∧ rd.getD k 0 ≤ n)) := by rw [take_succ_getD h, waitsFor_snoc]
theorem waitsFor_eq {s : St} (h : ∀ x ∈ s.rd, x = -1 ∨ (s.given ≤ x ∧ x ≤ s.new)) (hg : 0 ≤ s.given) {n : Int} (hn : n < s.new) : waitsFor n s.rd = decide (s.old ≤ n) := by
  unfold waitsFor
  by_cases c : s.old ≤ n
  · rw [decide_eq_true c, List.any_eq_true]
    rcases oldest_mem s.rd s.new with e | e
    · exfalso; unfold St.old at c; omega
    · refine ⟨_, e.1, decide_eq_true ⟨?_, c⟩⟩
      rcases h _ e.1 with q | q
      · exact absurd q e.2
      · omega
  · rw [decide_eq_false c, List.any_eq_false]
    intro x hx
    simp only [decide_eq_true_eq]
    rintro ⟨h0, h1⟩
    have := oldest_le_mem s.rd s.new x hx (by omega)
    exact c (Int.le_trans this h1)
section
variable {H : List Int} {s : St}
theorem Both.big (b : Both H s) : s.given + s.all.length = H.length := by have := b.len; unfold St.new at this; omega
theorem Both.cur (b : Both H s) : s.cur = H.getD (H.length - 1) 0 := by
  have h1 := b.big
  have h2 := b.ok.len
  have h3 := b.ok.given
  unfold St.cur
  rw [b.all] at h1 h2 ⊢
  rw [List.length_drop] at h1 h2
  rw [getD_drop, List.length_drop]
  congr 1; omega
theorem Both.wait (b : Both H s) : s.wait = (H.take (H.length - 1)).drop s.given.toNat := by
  have h1 := b.big
  have h2 := b.ok.len
  have h3 := b.ok.given
  unfold St.wait
  rw [List.drop_take]
  rw [b.all] at h1 h2 ⊢
  rw [List.length_drop] at h1 h2
  rw [List.length_drop]
  congr 1; omega
theorem Both.made {n : Nat} (h1 : 1 ≤ n) (h2 : n ≤ 16) (v : Int) : Both [v] (St.made n v) :=
  ⟨Ok.made h1 h2 v, made_tight v, by simp [St.made, St.new], by simp [St.made], fun i hi hn => by
    have hi2 : i < n := by simpa [St.made] using hi
    exact absurd (by simp [St.made, hi2]) hn⟩
/-- What is given back of all. -/
theorem back_of (h : Ok s) (ha : s.all = H.drop s.given.toNat) : s.back = (H.take s.old.toNat).drop s.given.toNat := by
  have h1 := h.num_eq
  have h2 := h.given
  have h3 := h.old_ge
  unfold St.back
  rw [ha, List.drop_take]
  congr 1; omega
theorem swept_all (h : Ok s) (ha : s.all = H.drop s.given.toNat) : s.swept.all = H.drop s.swept.given.toNat := by
  have h1 := h.num_eq
  have h2 := h.given
  have h3 := h.old_ge
  show s.all.drop s.num = H.drop s.old.toNat
  rw [ha, List.drop_drop]
  congr 1; omega
theorem Both.add_all (b : Both H s) (v : Int) : (s.add v).all = (H ++ [v]).drop (s.add v).given.toNat := by
  have h1 := b.big
  have h3 := b.ok.given
  show s.all ++ [v] = (H ++ [v]).drop s.given.toNat
  rw [List.drop_append_of_le_length (by omega), b.all]
theorem Both.publish (b : Both H s) (v : Int) : Both (H ++ [v]) (s.publish v) := by
  refine ⟨b.ok.publish v, b.ok.publish_tight v, ?_, swept_all (b.ok.add v) (b.add_all v), fun i hi hn => ?_⟩
  · rw [publish_new b.ok, List.length_append]; have := b.len; simp; omega
  · have h1 := b.seen i hi hn
    show s.seen.getD i 0 = _
    rw [h1]
    have hi2 : i < s.rd.length := hi
    show H.getD (s.rd.getD i 0).toNat 0 = (H ++ [v]).getD (s.rd.getD i 0).toNat 0
    rcases b.ok.range _ (getD_mem hi2) with q | q
    · exact absurd q hn
    · have h5 := b.len
      have h6 := b.ok.given
      rw [getD_app (by omega)]
theorem Both.leave (b : Both H s) (r : Int) : Both H (s.leave r) := by
  unfold St.leave
  split
  · have ho := b.ok.out r
    refine ⟨ho.swept, ho.swept_tight, ?_, swept_all ho b.all, fun i hi hn => ?_⟩
    · rw [ho.swept_new]; exact b.len
    · have hi2 : i < s.rd.length := by have e : (s.out r).swept.rd.length = s.rd.length := List.length_set; omega
      have hn2 : (s.rd.set (r - 1).toNat (-1)).getD i 0 ≠ -1 := hn
      show s.seen.getD i 0 = H.getD ((s.rd.set (r - 1).toNat (-1)).getD i 0).toNat 0
      by_cases e : (r - 1).toNat = i
      · subst e; exact absurd (getD_set_eq hi2 _) hn2
      · rw [getD_set_ne e] at hn2 ⊢
        exact b.seen i hi2 hn2
  · exact b
theorem Both.enter (b : Both H s) (r : Int) : Both H (s.enter r) := by
  by_cases hr : s.isOut r = true
  · obtain ⟨h1, h2, h3⟩ := isOut_iff.1 hr
    refine ⟨b.ok.enter r, b.ok.enter_tight b.tight r, by rw [enter_new]; exact b.len, by rw [enter_all, enter_given]; exact b.all, ?_⟩
    have he : s.enter r = s.let_ r := by unfold St.enter; rw [if_pos hr]
    rw [he]
    intro i hi hn
    have hi2 : i < s.rd.length := by have e : (s.let_ r).rd.length = s.rd.length := List.length_set; omega
    have hs := b.ok.seen
    have hn2 : (s.rd.set (r - 1).toNat s.new).getD i 0 ≠ -1 := hn
    show (s.seen.set (r - 1).toNat s.cur).getD i 0 = H.getD ((s.rd.set (r - 1).toNat s.new).getD i 0).toNat 0
    by_cases e : (r - 1).toNat = i
    · subst e
      rw [getD_set_eq (by omega), getD_set_eq hi2, b.cur]
      congr 1
      have := b.len; omega
    · rw [getD_set_ne e] at hn2 ⊢
      rw [getD_set_ne e]
      exact b.seen i hi2 hn2
  · have he : s.enter r = s := by unfold St.enter; rw [if_neg hr]
    rw [he]; exact b
theorem Both.sees (b : Both H s) {r : Int} (hr : s.isIn r = true) : s.sees r = H.getD (s.rd.getD (r - 1).toNat 0).toNat 0 := by
  obtain ⟨h1, h2, h3⟩ := isIn_iff.1 hr
  unfold St.sees
  rw [if_pos hr]
  exact b.seen _ (by omega) h3
end
end Go.Proofs.Ytmepodmcmpndoaa.Ep
