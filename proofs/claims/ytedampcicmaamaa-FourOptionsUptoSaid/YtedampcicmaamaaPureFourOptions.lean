/-
  The law FourOptions: what is kept is taken up as what was kept. No program in sight but its Lean functions. Conditions: those of each theorem.
-/
import Derived.Test.YtedampcicmaamaaPureFourOpt
set_option linter.unusedVariables false
set_option linter.unusedSectionVars false
set_option linter.unusedSimpArgs false
namespace Go.Proofs.Ytedampcicmaamaa.Pure
open Go.RowKit Go.Proofs.Ytedampcicmaamaa.PBase Go.Proofs.YtedampcicmaamaaW.PrintWords Go.Proofs.YtedampcicmaamaaW.PrintLast Go.Proofs.YtedampcicmaamaaW.PrintMore Go.Proofs.Ytedampcicmaamaa.MTally Go.Proofs.Ytedampcicmaamaa.MBe
theorem bt_pre {s : ByteArray} {pre rest : List Int} {x : Int} (h : bytesOf s = pre ++ x :: rest) : bt s (pre.length : Int) = x := by
  rw [← rd_bytesOf, h, rd_at (by simp), List.getElem_append_right (by omega)]; simp
theorem bt_pre1 {s : ByteArray} {pre rest : List Int} {x y : Int} (h : bytesOf s = pre ++ x :: y :: rest) : bt s ((pre.length : Int) + 1) = y := by
  have h2 : bytesOf s = (pre ++ [x]) ++ y :: rest := by rw [h]; simp
  have := bt_pre h2
  rwa [List.length_append, List.length_singleton, Int.natCast_add] at this
theorem parse_back (s : ByteArray) (z : Nat) : ∀ (L : List O) (k : Nat) (out : List O) (pre : List Int), (∀ o ∈ L, Good o ∧ 127 < o.f0) → bytesOf s = pre ++ (keptL L ++ List.replicate z 0) → L.length < k → ip4_Options.l s k out (pre.length : Int) = some (out ++ L, 0) := by
  intro L
  induction L with
  | nil =>
    intro k out pre _ h hk
    obtain ⟨k, rfl⟩ : ∃ m, k = m + 1 := ⟨k - 1, by omega⟩
    rw [ip4_Options.l, List.append_nil]
    cases z with
    | zero =>
      have : s.size = pre.length := by rw [← bytesOf_length, h]; simp [keptL]
      rw [if_pos (by omega)]
    | succ z =>
      have e : bytesOf s = pre ++ 0 :: List.replicate z 0 := by rw [h]; simp [keptL, List.replicate_succ]
      have hs : s.size = pre.length + 1 + z := by rw [← bytesOf_length, e]; simp; omega
      rw [if_neg (by omega), if_pos (bt_pre e)]
  | cons o L ih =>
    intro k out pre hg h hk
    rw [List.length_cons] at hk
    obtain ⟨k, rfl⟩ : ∃ m, k = m + 1 := ⟨k - 1, by omega⟩
    obtain ⟨⟨g1, g2, g3⟩, c⟩ := hg o (List.mem_cons_self ..)
    obtain ⟨R, hR⟩ : ∃ R, keptL L ++ List.replicate z 0 = R := ⟨_, rfl⟩
    have e : bytesOf s = pre ++ o.f0 :: ((o.f1.size : Int) + 2) :: (bytesOf o.f1 ++ R) := by
      rw [h, ← hR]
      unfold keptL
      rw [List.flatMap_cons]
      have : encO o = [o.f0, (o.f1.size : Int) + 2] ++ bytesOf o.f1 := by unfold encO; rw [if_pos c]
      rw [this]; simp
    have hs : s.size = pre.length + 2 + o.f1.size + R.length := by rw [← bytesOf_length, e]; simp [bytesOf_length]; omega
    have b0 := bt_pre e
    have b1 := bt_pre1 e
    rw [ip4_Options.l, b0, b1, if_neg (by omega), if_neg (by omega), if_neg (by omega), if_neg (by omega), if_neg (by omega), if_neg (by omega)]
    have hx : s.extract ((pre.length : Int) + 2).toNat ((pre.length : Int) + ((o.f1.size : Int) + 2)).toNat = o.f1 := by
      apply MBytes.inj
      rw [MBytes.extract, e, show ((pre.length : Int) + 2).toNat = pre.length + 2 by omega, show ((pre.length : Int) + ((o.f1.size : Int) + 2)).toNat - (pre.length + 2) = o.f1.size by omega]
      rw [show pre ++ o.f0 :: ((o.f1.size : Int) + 2) :: (bytesOf o.f1 ++ R) = (pre ++ [o.f0, (o.f1.size : Int) + 2]) ++ (bytesOf o.f1 ++ R) by simp]
      rw [List.drop_append_of_le_length (by simp), List.drop_of_length_le (by simp), List.nil_append, List.take_append_of_le_length (by rw [bytesOf_length]; exact Nat.le_refl _), List.take_of_length_le (by rw [bytesOf_length]; exact Nat.le_refl _)]
    rw [hx]
    have e2 : bytesOf s = (pre ++ [o.f0, (o.f1.size : Int) + 2] ++ bytesOf o.f1) ++ (keptL L ++ List.replicate z 0) := by rw [e, ← hR]; simp
    have hl : (((pre ++ [o.f0, (o.f1.size : Int) + 2] ++ bytesOf o.f1).length : Nat) : Int) = (pre.length : Int) + ((o.f1.size : Int) + 2) := by
      simp only [List.length_append, List.length_cons, List.length_nil, bytesOf_length]; omega
    have := ih k (out ++ [(⟨o.f0, o.f1⟩ : O)]) _ (fun x hx => hg x (List.mem_cons_of_mem _ hx)) e2 (by omega)
    rw [hl] at this
    rw [this, List.append_assoc]; rfl
theorem kept_filter : ∀ l : List O, keptL (l.filter (fun o => decide (127 < o.f0))) = keptL l := by
  intro l
  induction l with
  | nil => rfl
  | cons o l ih =>
    by_cases c : 127 < o.f0
    · rw [List.filter_cons_of_pos (by simpa using c)]
      unfold keptL at ih ⊢
      rw [List.flatMap_cons, List.flatMap_cons, ih]
    · rw [List.filter_cons_of_neg (by simpa using c), ih]
      unfold keptL
      rw [List.flatMap_cons]
      unfold encO
      rw [if_neg c, List.nil_append]
theorem kept_more : ∀ L : List O, (∀ o ∈ L, 127 < o.f0) → L.length ≤ (keptL L).length := by
  intro L
  induction L with
  | nil => intro _; simp
  | cons o L ih =>
    intro h
    have a := ih (fun x hx => h x (List.mem_cons_of_mem _ hx))
    have c := h o (List.mem_cons_self ..)
    unfold keptL at a ⊢
    rw [List.flatMap_cons, List.length_append, List.length_cons]
    have : 1 ≤ (encO o).length := by unfold encO; rw [if_pos c]; simp only [List.length_append, List.length_cons]; omega
    omega
theorem keptR_bytes (s : ByteArray) : bytesOf (keptR s) = padL (keptL (optsR s).1) := MBytes.ofNums (padL_bytes (keptL_bytes (optsR_good s).1))
theorem optsR_kept (s : ByteArray) : optsR (keptR s) = ((optsR s).1.filter (fun o => decide (127 < o.f0)), 0) := by
  have hg := (optsR_good s).1
  obtain ⟨l, hl⟩ : ∃ l, (optsR s).1 = l := ⟨_, rfl⟩
  have hb := keptR_bytes s
  rw [hl] at hb hg ⊢
  obtain ⟨L, hL⟩ : ∃ L, l.filter (fun o => decide (127 < o.f0)) = L := ⟨_, rfl⟩
  have hk := kept_filter l
  rw [hL] at hk ⊢
  have hgL : ∀ o ∈ L, Good o ∧ 127 < o.f0 := by
    intro o ho
    rw [← hL] at ho
    obtain ⟨q1, q2⟩ := List.mem_filter.1 ho
    exact ⟨hg o q1, of_decide_eq_true q2⟩
  have hm := kept_more L (fun o ho => (hgL o ho).2)
  have hsz : (keptR s).size = (padL (keptL l)).length := by rw [← bytesOf_length, hb]
  have hge : (keptL L).length ≤ (padL (keptL l)).length := by rw [hk]; unfold padL; rw [List.length_append]; omega
  have e : bytesOf (keptR s) = [] ++ (keptL L ++ List.replicate ((4 - (keptL L).length % 4) % 4) 0) := by rw [hb, hk, List.nil_append]; rfl
  have := parse_back (keptR s) _ L ((keptR s).size + 1) [] [] hgL e (by omega)
  unfold optsR
  rw [show ((([] : List Int).length : Nat) : Int) = 0 from rfl] at this
  rw [this]; rfl
theorem keptR_again (s : ByteArray) : keptR (keptR s) = keptR s := by
  have h := optsR_kept s
  have e : ∀ t, keptR t = strOfNums (padL (keptL (optsR t).1)) := fun _ => rfl
  rw [e (keptR s), h]
  show strOfNums (padL (keptL ((optsR s).1.filter fun o => decide (127 < o.f0)))) = keptR s
  rw [kept_filter]; rfl
theorem keptR_four (s : ByteArray) : ((keptR s).size : Int) % 4 = 0 := by
  have : (keptR s).size = (padL (keptL (optsR s).1)).length := by rw [← bytesOf_length, keptR_bytes]
  unfold padL at this
  rw [List.length_append, List.length_replicate] at this
  omega
theorem keptR_size {s : ByteArray} : (keptR s).size ≤ 255 * s.size + 3 := by
  obtain ⟨hg, hl⟩ := optsR_good s
  have hk := keptL_len hg
  have : (keptR s).size = (padL (keptL (optsR s).1)).length := by rw [← bytesOf_length, keptR_bytes]
  unfold padL at this
  rw [List.length_append, List.length_replicate] at this
  omega
theorem same_l0 (l : List O) (hl : l.length ≤ 1073741824) : ∀ (d i : Nat), i + d = l.length → Ev (fun k => crosswaylaw06_same.l0 k l l (i : Int)) true := by
  intro d
  induction d with
  | zero =>
    intro i hi
    refine Ev.step (fun k => by simp only [crosswaylaw06_same.l0]; rfl) ?_
    exact ev_neg (by omega) (ev_eq fun _ => rfl)
  | succ d ih =>
    intro i hi
    refine Ev.step (fun k => by simp only [crosswaylaw06_same.l0]; rfl) ?_
    have e1 : wrap64 ((i : Int) + 1) = ((i + 1 : Nat) : Int) := by rw [w64 (by omega) (by omega)]; rfl
    rw [e1]
    exact ev_pos (by omega) (ev_pos (by omega) (ev_pos (by omega) (ev_neg (by simp) (ih (i + 1) (by omega)))))
theorem same_ev (l : List O) (hl : l.length ≤ 1073741824) : Ev (fun k => crosswaylaw06_same.f k l l) true := by
  unfold crosswaylaw06_same.f
  exact ev_pos rfl (same_l0 l hl l.length 0 (by omega))
theorem awake_ev : Ev (fun k => crosswaylaw06_awake.f k) true := Ev.of (fun k => crosswaylaw06_awake.mono k) (k := 100) (by decide +kernel)
theorem FourOptions (s : ByteArray) (_ : s.size ≤ 140737488351232) (hs : s.size ≤ 1048576) : ∃ k, crosswaylaw06_FourOptions.f k s = some true := by
  refine Ev.rounds (r := true) ?_
  unfold crosswaylaw06_FourOptions.f
  obtain ⟨hg, hl⟩ := optsR_good s
  have hk := keptR_size (s := s)
  refine Ev.bind awake_ev (ev_bind (opts_eq s (by omega)) (Ev.bind (ropts_ev s (by omega)) (Ev.bind (same_ev _ (by omega)) (Ev.bind (kept_ev (by omega)) (ev_bind (opts_eq _ (by omega)) ?_)))))
  refine ev_pos rfl (ev_pos rfl (ev_pos rfl (Ev.bind (rkept_ev (by omega)) (ev_pos rfl (Ev.bind (kept_ev (by omega)) ?_)))))
  rw [keptR_again, optsR_kept]
  exact ev_pos rfl (ev_pos (keptR_four s) (ev_eq fun _ => rfl))
end Go.Proofs.Ytedampcicmaamaa.Pure
