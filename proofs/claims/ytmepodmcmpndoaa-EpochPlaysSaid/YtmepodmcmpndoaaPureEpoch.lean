/-
  An epoch as plain data: what its calls make of it, and what stays true. No program in sight. Conditions: those of each theorem.
-/
set_option linter.unusedVariables false
set_option linter.unusedSimpArgs false
namespace Go.Proofs.Ytmepodmcmpndoaa.Ep

/-- The oldest publication that is seen: the newest, or that of a reader that is in. -/
def oldest (m : Int) (rd : List Int) : Int := rd.foldl (fun o s => if s = -1 then o else min o s) m
theorem oldest_nil (m : Int) : oldest m [] = m := rfl
theorem oldest_cons (m s : Int) (rd : List Int) : oldest m (s :: rd) = oldest (if s = -1 then m else min m s) rd := rfl
theorem oldest_snoc (m s : Int) (rd : List Int) : oldest m (rd ++ [s]) = if s = -1 then oldest m rd else min (oldest m rd) s := by
  unfold oldest; rw [List.foldl_append]; rfl
theorem oldest_le (rd : List Int) : ∀ m, oldest m rd ≤ m := by
  induction rd with
  | nil => intro m; exact Int.le_refl _
  | cons s rd ih =>
    intro m
    rw [oldest_cons]
    have := ih (if s = -1 then m else min m s)
    split at this <;> rename_i h
    · rw [if_pos h]; exact this
    · rw [if_neg h]; omega
theorem oldest_le_mem (rd : List Int) : ∀ m, ∀ s ∈ rd, s ≠ -1 → oldest m rd ≤ s := by
  induction rd with
  | nil => intro m s h; cases h
  | cons a rd ih =>
    intro m s h hs
    rw [oldest_cons]
    rcases List.mem_cons.1 h with rfl | h
    · have := oldest_le rd (if s = -1 then m else min m s)
      rw [if_neg hs] at this ⊢
      omega
    · exact ih _ s h hs
theorem oldest_mem (rd : List Int) : ∀ m, oldest m rd = m ∨ (oldest m rd ∈ rd ∧ oldest m rd ≠ -1) := by
  induction rd with
  | nil => intro m; exact .inl rfl
  | cons a rd ih =>
    intro m
    rw [oldest_cons]
    by_cases h : a = -1
    · rw [if_pos h]
      rcases ih m with h1 | h1
      · exact .inl h1
      · exact .inr ⟨List.mem_cons_of_mem _ h1.1, h1.2⟩
    · rw [if_neg h]
      rcases ih (min m a) with h1 | h1
      · by_cases hm : m ≤ a
        · left; rw [h1]; omega
        · right; rw [h1]
          have e : min m a = a := by omega
          rw [e]; exact ⟨List.mem_cons_self .., h⟩
      · exact .inr ⟨List.mem_cons_of_mem _ h1.1, h1.2⟩
/-- It is told by this. -/
theorem oldest_eq {m o : Int} {rd : List Int} (h1 : o ≤ m) (h2 : ∀ s ∈ rd, s ≠ -1 → o ≤ s) (h3 : o = m ∨ (o ∈ rd ∧ o ≠ -1)) : oldest m rd = o := by
  have a := oldest_le rd m
  have b := oldest_le_mem rd m
  rcases oldest_mem rd m with c | c
  · rcases h3 with d | d
    · omega
    · have := b o d.1 d.2; omega
  · have := h2 _ c.1 c.2
    rcases h3 with d | d
    · omega
    · have := b o d.1 d.2; omega

/-- What an epoch holds. -/
structure St where
  all : List Int
  given : Int
  rd : List Int
  seen : List Int

/-- The newest publication. -/
def St.new (s : St) : Int := s.given + s.all.length - 1
def St.old (s : St) : Int := oldest s.new s.rd
/-- How many are given back. -/
def St.num (s : St) : Nat := (s.old - s.given).toNat
def St.back (s : St) : List Int := s.all.take s.num
def St.swept (s : St) : St := { s with all := s.all.drop s.num, given := s.old }
def St.add (s : St) (v : Int) : St := { s with all := s.all ++ [v] }
def St.cur (s : St) : Int := s.all.getD (s.all.length - 1) 0
def St.let_ (s : St) (r : Int) : St := { s with rd := s.rd.set (r - 1).toNat s.new, seen := s.seen.set (r - 1).toNat s.cur }
def St.out (s : St) (r : Int) : St := { s with rd := s.rd.set (r - 1).toNat (-1) }
/-- Is it a reader that is in; one that is out? -/
def St.isIn (s : St) (r : Int) : Bool := decide (1 ≤ r ∧ r ≤ s.rd.length ∧ s.rd.getD (r - 1).toNat 0 ≠ -1)
def St.isOut (s : St) (r : Int) : Bool := decide (1 ≤ r ∧ r ≤ s.rd.length ∧ s.rd.getD (r - 1).toNat 0 = -1)
def St.publish (s : St) (v : Int) : St := (s.add v).swept
def St.enter (s : St) (r : Int) : St := if s.isOut r = true then s.let_ r else s
def St.leave (s : St) (r : Int) : St := if s.isIn r = true then (s.out r).swept else s
def St.wait (s : St) : List Int := s.all.take (s.all.length - 1)
def St.sees (s : St) (r : Int) : Int := if s.isIn r = true then s.seen.getD (r - 1).toNat 0 else 0

/-- What is true of every epoch. -/
structure Ok (s : St) : Prop where mk ::
  len : 1 ≤ s.all.length
  given : 0 ≤ s.given
  rd1 : 1 ≤ s.rd.length
  rd16 : s.rd.length ≤ 16
  seen : s.seen.length = s.rd.length
  range : ∀ x ∈ s.rd, x = -1 ∨ (s.given ≤ x ∧ x ≤ s.new)
/-- Nothing waits for nobody. -/
def Tight (s : St) : Prop := s.given = s.old

theorem mem_set {l : List Int} {i : Nat} {a x : Int} (h : x ∈ l.set i a) : x = a ∨ x ∈ l := by
  rcases List.mem_or_eq_of_mem_set h with h | h
  · exact .inr h
  · exact .inl h
theorem getD_mem {l : List Int} {i : Nat} (h : i < l.length) : l.getD i 0 ∈ l := by
  rw [List.getD_eq_getElem?_getD, List.getElem?_eq_getElem h]; exact List.getElem_mem h

section
variable {s : St}
theorem Ok.old_le (h : Ok s) : s.old ≤ s.new := oldest_le _ _
theorem Ok.old_ge (h : Ok s) : s.given ≤ s.old := by
  have hl := h.len
  rcases oldest_mem s.rd s.new with e | e
  · unfold St.old; rw [e]; unfold St.new; omega
  · rcases h.range _ e.1 with h1 | h1
    · exact absurd h1 e.2
    · exact h1.1
theorem Ok.num_eq (h : Ok s) : (s.num : Int) = s.old - s.given := by
  have := h.old_ge
  unfold St.num; omega
theorem Ok.num_lt (h : Ok s) : s.num < s.all.length := by
  have h1 := h.num_eq
  have h2 := h.old_le
  have hl := h.len
  unfold St.new at h2; omega
theorem Ok.swept_len (h : Ok s) : (s.swept.all.length : Int) = s.all.length - s.num := by
  have := h.num_lt
  show ((s.all.drop s.num).length : Int) = _
  rw [List.length_drop]; omega
theorem Ok.swept_new (h : Ok s) : s.swept.new = s.new := by
  have h1 := h.swept_len
  have h2 := h.num_eq
  unfold St.new
  rw [h1]
  show s.old + _ - 1 = _
  omega
theorem Ok.swept (h : Ok s) : Ok s.swept := by
  have h1 := h.swept_len
  have h2 := h.num_lt
  have h3 := h.old_ge
  have h4 := h.given
  refine ⟨by omega, by show 0 ≤ s.old; omega, h.rd1, h.rd16, h.seen, fun x hx => ?_⟩
  rw [h.swept_new]
  rcases h.range x hx with e | e
  · exact .inl e
  · by_cases hn : x = -1
    · exact .inl hn
    · exact .inr ⟨oldest_le_mem _ _ _ hx hn, e.2⟩
theorem Ok.swept_tight (h : Ok s) : Tight s.swept := by
  unfold Tight St.old
  rw [h.swept_new]; rfl
theorem Ok.add (h : Ok s) (v : Int) : Ok (s.add v) := by
  have hl := h.len
  have e : (s.add v).new = s.new + 1 := by unfold St.new St.add; simp; omega
  refine ⟨by unfold St.add; simp, h.given, h.rd1, h.rd16, h.seen, fun x hx => ?_⟩
  rw [e]
  rcases h.range x hx with q | q
  · exact .inl q
  · exact .inr ⟨q.1, by omega⟩
theorem Ok.publish (h : Ok s) (v : Int) : Ok (s.publish v) := (h.add v).swept
theorem Ok.publish_tight (h : Ok s) (v : Int) : Tight (s.publish v) := (h.add v).swept_tight
theorem Ok.out (h : Ok s) (r : Int) : Ok (s.out r) :=
  ⟨h.len, h.given, by show 1 ≤ (s.rd.set _ _).length; rw [List.length_set]; exact h.rd1, by show (s.rd.set _ _).length ≤ 16; rw [List.length_set]; exact h.rd16, by show _ = (s.rd.set _ _).length; rw [List.length_set]; exact h.seen,
    fun x hx => by rcases mem_set hx with e | e; exact .inl e; exact h.range x e⟩
theorem Ok.let_ (h : Ok s) (r : Int) : Ok (s.let_ r) :=
  ⟨h.len, h.given, by show 1 ≤ (s.rd.set _ _).length; rw [List.length_set]; exact h.rd1, by show (s.rd.set _ _).length ≤ 16; rw [List.length_set]; exact h.rd16, by show (s.seen.set _ _).length = (s.rd.set _ _).length; rw [List.length_set, List.length_set]; exact h.seen,
    fun x hx => by
      rcases mem_set hx with e | e
      · have hl := h.len
        refine .inr ⟨?_, ?_⟩
        · rw [e]; show s.given ≤ s.given + s.all.length - 1; omega
        · rw [e]; exact Int.le_refl _
      · exact h.range x e⟩
theorem isOut_iff {r : Int} : s.isOut r = true ↔ 1 ≤ r ∧ r ≤ s.rd.length ∧ s.rd.getD (r - 1).toNat 0 = -1 := by unfold St.isOut; exact decide_eq_true_iff
theorem isIn_iff {r : Int} : s.isIn r = true ↔ 1 ≤ r ∧ r ≤ s.rd.length ∧ s.rd.getD (r - 1).toNat 0 ≠ -1 := by unfold St.isIn; exact decide_eq_true_iff
theorem Ok.let_tight (h : Ok s) (t : Tight s) {r : Int} (hr : s.isOut r = true) : Tight (s.let_ r) := by
  obtain ⟨h1, h2, h3⟩ := isOut_iff.1 hr
  have e : (s.let_ r).new = s.new := rfl
  have hi : (r - 1).toNat < s.rd.length := by omega
  refine Eq.symm (oldest_eq ?_ ?_ ?_)
  · rw [e]; exact t ▸ h.old_le
  · intro x hx hx1
    rcases mem_set hx with q | q
    · rw [q]; exact t ▸ h.old_le
    · show s.given ≤ x
      rw [t]; exact oldest_le_mem _ _ _ q hx1
  · have t' : s.given = oldest s.new s.rd := t
    rcases oldest_mem s.rd s.new with q | q
    · exact .inl (t'.trans q)
    · have hm : s.given ∈ s.rd.set (r - 1).toNat s.new := by
        rw [t']
        obtain ⟨j, hj, ej⟩ := List.mem_iff_getElem.1 q.1
        have hne : (r - 1).toNat ≠ j := by
          intro e2
          rw [List.getD_eq_getElem?_getD, e2, List.getElem?_eq_getElem hj] at h3
          exact q.2 (ej.symm.trans h3)
        refine List.mem_iff_getElem.2 ⟨j, by rw [List.length_set]; exact hj, ?_⟩
        rw [List.getElem_set_ne hne]; exact ej
      exact .inr ⟨hm, by show s.given ≠ -1; rw [t']; exact q.2⟩
theorem Ok.enter (h : Ok s) (r : Int) : Ok (s.enter r) := by unfold St.enter; split; exact h.let_ r; exact h
theorem Ok.enter_tight (h : Ok s) (t : Tight s) (r : Int) : Tight (s.enter r) := by
  unfold St.enter; split
  · exact h.let_tight t ‹_›
  · exact t
theorem Ok.leave (h : Ok s) (r : Int) : Ok (s.leave r) := by unfold St.leave; split; exact (h.out r).swept; exact h
theorem Ok.leave_tight (h : Ok s) (t : Tight s) (r : Int) : Tight (s.leave r) := by
  unfold St.leave; split
  · exact (h.out r).swept_tight
  · exact t
end
/-- A new one. -/
def St.made (n : Nat) (first : Int) : St := ⟨[first], 0, List.replicate n (-1), List.replicate n 0⟩
theorem Ok.made {n : Nat} (h1 : 1 ≤ n) (h2 : n ≤ 16) (v : Int) : Ok (St.made n v) :=
  ⟨by simp [St.made], by simp [St.made], by simpa [St.made] using h1, by simpa [St.made] using h2, by simp [St.made], fun x hx => .inl (List.eq_of_mem_replicate hx)⟩
theorem made_tight {n : Nat} (v : Int) : Tight (St.made n v) := by
  refine Eq.symm (oldest_eq ?_ ?_ ?_)
  · simp [St.made, St.new]
  · intro x hx hx1; exact absurd (List.eq_of_mem_replicate hx) hx1
  · left; simp [St.made, St.new]
/-- The versions are numbered as they were published. -/
structure Idx (s : St) : Prop where mk ::
  all : ∀ i, i < s.all.length → s.all.getD i 0 = s.given + i
  seen : ∀ i, i < s.rd.length → s.rd.getD i 0 ≠ -1 → s.seen.getD i 0 = s.rd.getD i 0
theorem getD_set_eq {l : List Int} {i : Nat} (h : i < l.length) (a : Int) : (l.set i a).getD i 0 = a := by
  rw [List.getD_eq_getElem?_getD, List.getElem?_set_self h]; rfl
theorem getD_set_ne {l : List Int} {i j : Nat} (h : i ≠ j) (a : Int) : (l.set i a).getD j 0 = l.getD j 0 := by
  rw [List.getD_eq_getElem?_getD, List.getElem?_set_ne h, List.getD_eq_getElem?_getD]
theorem getD_drop {l : List Int} (n i : Nat) : (l.drop n).getD i 0 = l.getD (n + i) 0 := by
  rw [List.getD_eq_getElem?_getD, List.getElem?_drop, List.getD_eq_getElem?_getD]
theorem getD_take {l : List Int} {n i : Nat} (h : i < n) : (l.take n).getD i 0 = l.getD i 0 := by
  rw [List.getD_eq_getElem?_getD, List.getElem?_take, if_pos h, List.getD_eq_getElem?_getD]
theorem getD_app {l m : List Int} {i : Nat} (h : i < l.length) : (l ++ m).getD i 0 = l.getD i 0 := by
  rw [List.getD_eq_getElem?_getD, List.getElem?_append_left h, List.getD_eq_getElem?_getD]
theorem getD_app_end {l : List Int} (v : Int) : (l ++ [v]).getD l.length 0 = v := by
  rw [List.getD_eq_getElem?_getD]; simp
section
variable {s : St}
theorem Idx.cur (h : Ok s) (x : Idx s) : s.cur = s.new := by
  have hl := h.len
  unfold St.cur St.new
  rw [x.all _ (by omega)]; omega
theorem Idx.swept (h : Ok s) (x : Idx s) : Idx s.swept := by
  have h2 := h.num_eq
  have h3 := h.num_lt
  refine ⟨fun i hi => ?_, x.seen⟩
  have h4 : i < s.all.length - s.num := by have e : s.swept.all.length = s.all.length - s.num := List.length_drop; omega
  show (s.all.drop s.num).getD i 0 = s.old + i
  rw [getD_drop, x.all _ (by omega)]; omega
theorem Idx.add (h : Ok s) (x : Idx s) : Idx (s.add (s.new + 1)) := by
  refine ⟨fun i hi => ?_, x.seen⟩
  have h4 : i < s.all.length + 1 := by have e : (s.add (s.new + 1)).all.length = s.all.length + 1 := by simp [St.add]
                                       omega
  show (s.all ++ [s.new + 1]).getD i 0 = s.given + i
  by_cases h5 : i < s.all.length
  · rw [getD_app h5, x.all _ h5]
  · obtain rfl : i = s.all.length := by omega
    rw [getD_app_end]; unfold St.new; omega
theorem Idx.publish (h : Ok s) (x : Idx s) : Idx (s.publish (s.new + 1)) := Idx.swept (h.add _) (x.add h)
theorem Idx.out (x : Idx s) (r : Int) : Idx (s.out r) := by
  refine ⟨x.all, fun i hi hn => ?_⟩
  have hi2 : i < s.rd.length := by have e : (s.out r).rd.length = s.rd.length := List.length_set; omega
  have hn2 : (s.rd.set (r - 1).toNat (-1)).getD i 0 ≠ -1 := hn
  show s.seen.getD i 0 = (s.rd.set (r - 1).toNat (-1)).getD i 0
  by_cases e : (r - 1).toNat = i
  · subst e; exact absurd (getD_set_eq hi2 _) hn2
  · rw [getD_set_ne e] at hn2 ⊢
    exact x.seen i hi2 hn2
theorem Idx.let_ (h : Ok s) (x : Idx s) {r : Int} (hr : s.isOut r = true) : Idx (s.let_ r) := by
  obtain ⟨h1, h2, h3⟩ := isOut_iff.1 hr
  refine ⟨x.all, fun i hi hn => ?_⟩
  have hi2 : i < s.rd.length := by have e : (s.let_ r).rd.length = s.rd.length := List.length_set; omega
  have hs := h.seen
  have hn2 : (s.rd.set (r - 1).toNat s.new).getD i 0 ≠ -1 := hn
  show (s.seen.set (r - 1).toNat s.cur).getD i 0 = (s.rd.set (r - 1).toNat s.new).getD i 0
  by_cases e : (r - 1).toNat = i
  · subst e
    rw [getD_set_eq (by omega), getD_set_eq hi2, x.cur h]
  · rw [getD_set_ne e] at hn2 ⊢
    rw [getD_set_ne e]
    exact x.seen i hi2 hn2
theorem Idx.enter (h : Ok s) (x : Idx s) (r : Int) : Idx (s.enter r) := by
  unfold St.enter; split
  · exact x.let_ h ‹_›
  · exact x
theorem Idx.leave (h : Ok s) (x : Idx s) (r : Int) : Idx (s.leave r) := by
  unfold St.leave; split
  · exact Idx.swept (h.out r) (x.out r)
  · exact x
theorem Idx.made {n : Nat} : Idx (St.made n 0) := by
  refine ⟨fun i hi => ?_, fun i hi hn => ?_⟩
  · have : i < 1 := hi
    obtain rfl : i = 0 := by omega
    rfl
  · have hi2 : i < n := by simpa [St.made] using hi
    exact absurd (by simp [St.made, hi2]) hn
theorem Idx.back (h : Ok s) (x : Idx s) {k : Nat} (hk : k < s.num) : s.back.getD k 0 = s.given + k := by
  have := h.num_lt
  unfold St.back
  rw [getD_take hk, x.all _ (by omega)]
theorem back_length (h : Ok s) : s.back.length = s.num := by
  have := h.num_lt
  unfold St.back; rw [List.length_take]; omega
/-- What a reader sees. -/
theorem Idx.sees (h : Ok s) (x : Idx s) {r : Int} (hr : s.isIn r = true) : s.sees r = s.rd.getD (r - 1).toNat 0 ∧ s.given ≤ s.sees r := by
  obtain ⟨h1, h2, h3⟩ := isIn_iff.1 hr
  have hi : (r - 1).toNat < s.rd.length := by omega
  have e : s.sees r = s.rd.getD (r - 1).toNat 0 := by unfold St.sees; rw [if_pos hr, x.seen _ hi h3]
  refine ⟨e, ?_⟩
  rw [e]
  rcases h.range _ (getD_mem hi) with q | q
  · exact absurd q h3
  · exact q.1
theorem enter_new (s : St) (r : Int) : (s.enter r).new = s.new := by unfold St.enter; split <;> rfl
theorem enter_given (s : St) (r : Int) : (s.enter r).given = s.given := by unfold St.enter; split <;> rfl
theorem enter_all (s : St) (r : Int) : (s.enter r).all = s.all := by unfold St.enter; split <;> rfl
theorem enter_rd (s : St) (r : Int) : (s.enter r).rd.length = s.rd.length := by
  unfold St.enter; split
  · exact List.length_set
  · rfl
theorem publish_new (h : Ok s) (v : Int) : (s.publish v).new = s.new + 1 := by
  unfold St.publish
  rw [(h.add v).swept_new]
  unfold St.new St.add; simp; omega
theorem publish_rd (s : St) (v : Int) : (s.publish v).rd = s.rd := rfl
theorem leave_new (h : Ok s) (r : Int) : (s.leave r).new = s.new := by
  unfold St.leave; split
  · exact (h.out r).swept_new
  · rfl
theorem leave_rd (s : St) (r : Int) : (s.leave r).rd.length = s.rd.length := by
  unfold St.leave; split
  · exact List.length_set
  · rfl
theorem wait_length (h : Ok s) : (s.wait.length : Int) = s.all.length - 1 := by
  have := h.len
  unfold St.wait; rw [List.length_take]; omega
/-- What is given back now. -/
def St.pubs (s : St) (v : Int) : List Int := (s.add v).back
def St.leaves (s : St) (r : Int) : List Int := if s.isIn r = true then (s.out r).back else []
/-- What is given back is what was waited for, in its order. -/
theorem pubs_get (h : Ok s) (x : Idx s) {k : Nat} (hk : k < (s.pubs (s.new + 1)).length) : (s.pubs (s.new + 1)).getD k 0 = s.given + k := by
  unfold St.pubs at hk ⊢
  rw [back_length (h.add _)] at hk
  exact (x.add h).back (h.add _) hk
theorem pubs_given (h : Ok s) (v : Int) : (s.publish v).given = s.given + (s.pubs v).length := by
  unfold St.pubs
  rw [back_length (h.add _), (h.add v).num_eq]
  show (s.add v).old = s.given + ((s.add v).old - s.given)
  omega
theorem leaves_get (h : Ok s) (x : Idx s) {r : Int} {k : Nat} (hk : k < (s.leaves r).length) : (s.leaves r).getD k 0 = s.given + k := by
  unfold St.leaves at hk ⊢
  split at hk <;> rename_i hr
  · rw [if_pos hr]
    rw [back_length (h.out _)] at hk
    exact (x.out r).back (h.out _) hk
  · simp at hk
theorem leaves_given (h : Ok s) (r : Int) : (s.leave r).given = s.given + (s.leaves r).length := by
  unfold St.leaves St.leave
  split
  · rw [back_length (h.out _), (h.out r).num_eq]
    show (s.out r).old = s.given + ((s.out r).old - s.given)
    omega
  · simp
/-! When all are out -/
def AllOut (s : St) (k : Nat) : Prop := ∀ i, i < k → s.rd.getD i 0 = -1
theorem AllOut.leave {k : Nat} (a : AllOut s k) (hk : k < s.rd.length) : AllOut (s.leave ((k : Int) + 1)) (k + 1) := by
  have e : ((k : Int) + 1 - 1).toNat = k := by omega
  intro i hi
  unfold St.leave
  split <;> rename_i h
  · show (s.rd.set ((k : Int) + 1 - 1).toNat (-1)).getD i 0 = -1
    rw [e]
    by_cases hik : k = i
    · subst hik; exact getD_set_eq hk _
    · rw [getD_set_ne hik]; exact a i (by omega)
  · by_cases hik : k = i
    · subst hik
      have h2 : ¬ s.isIn ((k : Int) + 1) = true := h
      rw [isIn_iff, e] at h2
      by_cases h3 : s.rd.getD k 0 = -1
      · exact h3
      · exact absurd ⟨by omega, by omega, h3⟩ h2
    · exact a i (by omega)
theorem AllOut.isIn {k : Nat} (a : AllOut s (k + 1)) : s.isIn ((k : Int) + 1) = false := by
  have e : ((k : Int) + 1 - 1).toNat = k := by omega
  unfold St.isIn
  rw [e]
  exact decide_eq_false (fun h => h.2.2 (a k (by omega)))
theorem AllOut.old (a : AllOut s s.rd.length) (m : Int) : oldest m s.rd = m :=
  oldest_eq (Int.le_refl _) (fun x hx hx1 => by
    obtain ⟨j, hj, ej⟩ := List.mem_iff_getElem.1 hx
    have := a j hj
    rw [List.getD_eq_getElem?_getD, List.getElem?_eq_getElem hj] at this
    exact absurd (ej.symm.trans this) hx1) (.inl rfl)
theorem AllOut.len (h : Ok s) (t : Tight s) (a : AllOut s s.rd.length) : s.all.length = 1 := by
  have e : s.given = s.new := t.trans (a.old s.new)
  have := h.len
  unfold St.new at e; omega
theorem one_all {l : List Int} (h : l.length = 1) : l = [l.getD (l.length - 1) 0] := by
  match l, h with
  | [a], _ => rfl
theorem AllOut.pubs (h : Ok s) (t : Tight s) (a : AllOut s s.rd.length) (v : Int) : s.pubs v = [s.cur] ∧ (s.publish v).all = [v] := by
  have hl := a.len h t
  have e : (s.add v).old = s.new + 1 := by
    have e1 : (s.add v).new = s.new + 1 := by unfold St.new St.add; simp; omega
    unfold St.old; rw [e1]; exact a.old _
  have e2 : (s.add v).num = 1 := by
    unfold St.num
    rw [e]
    show (s.new + 1 - s.given).toNat = 1
    unfold St.new; omega
  have e3 := one_all hl
  refine ⟨?_, ?_⟩
  · unfold St.pubs St.back
    rw [e2]
    show (s.all ++ [v]).take 1 = [s.all.getD (s.all.length - 1) 0]
    conv => lhs; rw [e3]
    rfl
  · show (s.all ++ [v]).drop (s.add v).num = [v]
    rw [e2]
    conv => lhs; rw [e3]
    rfl
theorem AllOut.wait (h : Ok s) (t : Tight s) (a : AllOut s s.rd.length) : s.wait = [] := by
  unfold St.wait; rw [a.len h t]; simp
/-! Whatever waits, waits for somebody -/
theorem prompt (h : Ok s) (t : Tight s) (hw : 2 ≤ s.all.length) : oldest (s.new + 1) s.rd = s.given := by
  have h1 : s.given ≠ s.new := by unfold St.new; omega
  have h2 := h.old_le
  rw [← t] at h2
  refine oldest_eq (by omega) (fun x hx hx1 => t ▸ oldest_le_mem _ _ _ hx hx1) (.inr ?_)
  rcases oldest_mem s.rd s.new with e | e
  · exact absurd (t.trans e) h1
  · rw [t]; exact e
theorem take_succ_getD {l : List Int} {k : Nat} (h : k < l.length) : l.take (k + 1) = l.take k ++ [l.getD k 0] := by
  rw [List.take_succ_eq_append_getElem h, List.getD_eq_getElem?_getD, List.getElem?_eq_getElem h]; rfl
theorem oldest_step {m : Int} {rd : List Int} {k : Nat} (h : k < rd.length) : oldest m (rd.take (k + 1)) = if rd.getD k 0 = -1 then oldest m (rd.take k) else min (oldest m (rd.take k)) (rd.getD k 0) := by
  rw [take_succ_getD h, oldest_snoc]
theorem isIn_at {k : Nat} (h : k < s.rd.length) : s.isIn ((k : Int) + 1) = decide (s.rd.getD k 0 ≠ -1) := by
  unfold St.isIn
  rw [show ((k : Int) + 1 - 1).toNat = k by omega]
  by_cases e : s.rd.getD k 0 = -1
  · rw [decide_eq_false (fun q => q.2.2 e), decide_eq_false (fun q => q e)]
  · rw [decide_eq_true ⟨by omega, by omega, e⟩, decide_eq_true e]
end
end Go.Proofs.Ytmepodmcmpndoaa.Ep
