/-
  The pure law NdRow. No program in sight but its Lean functions. Conditions: those of each theorem.
-/
import Derived.Test.YtkpncagfhiceoaaPBasex18
import Derived.Test.YtkpncagfhiceoaaPureNdOpt
set_option linter.unusedVariables false
set_option linter.unusedSimpArgs false
namespace Go.Proofs.Ytkpncagfhiceoaa.Pure
open Go.RowKit Go.Proofs.Ytkpncagfhiceoaa.PBase Go.Proofs.YtkpncagfhiceoaaW.PrintWords Go.Proofs.YtkpncagfhiceoaaW.PrintLast Go.Proofs.Ytkpncagfhiceoaa.MTally Go.Proofs.Ytkpncagfhiceoaa.MBe
theorem total_take (l : List Opt) {i : Nat} (h : i < l.length) : total (l.take (i + 1)) = total (l.take i) + 2 + l[i].f1.size := by
  induction l generalizing i with
  | nil => simp at h
  | cons x xs ih =>
    cases i with
    | zero => simp [total]
    | succ i =>
      have := ih (i := i) (by simpa using h)
      simp only [List.take_succ_cons, total, List.getElem_cons_succ]
      rw [this]; omega
theorem row_j3 (s : ByteArray) (l m : List Opt) (hl : l.length ≤ 5000) (hm : m.length ≤ 5000) (n : Int) (hn : n = (s.size : Int)) : Ev (fun k => crosswaylaw09_NdRow.j3 k s true l m (l ++ m) 0 n false) true := by
  refine Ev.step (fun k => by simp only [crosswaylaw09_NdRow.j3]; rfl) ?_
  refine ev_neg (by decide) (ev_pos (by first | exact True.intro | exact rfl) (ev_pos (by first | exact True.intro | exact rfl) (ev_pos hn (ev_pos (by omega) (ev_pos (by rw [List.length_append]; omega) ?_)))))
  rw [Int.toNat_natCast, List.take_left, List.drop_left]
  exact Ev.bind (same_ev l (by omega)) (ev_pos (by first | exact True.intro | exact rfl) (Ev.bind (same_ev m (by omega)) (ev_eq fun _ => rfl)))
theorem row_j2 (s : ByteArray) (l m : List Opt) (hs : s.size ≤ 5000) (h0 : 0 < s.size) (ho : (opts (bytesOf s)).2 = 0) (hol : (opts (bytesOf s)).1 = l) (hl : l.length ≤ 5000) (hm : m.length ≤ 5000) (n : Int) (hn : n = (s.size : Int)) (c : Int) (hc : 0 ≤ c) : Ev (fun k => crosswaylaw09_NdRow.j2 k s c true l m (l ++ m) 0 n) true := by
  have e : Int.tmod c (s.size : Int) = c % (s.size : Int) := Int.tmod_eq_emod_of_nonneg hc
  have r1 := Int.emod_nonneg c (show (s.size : Int) ≠ 0 by omega)
  have r2 := Int.emod_lt_of_pos c (show 0 < (s.size : Int) by omega)
  obtain ⟨q, hq⟩ : ∃ q : Nat, c % (s.size : Int) = (q : Int) := ⟨(c % (s.size : Int)).toNat, by omega⟩
  have hx : bytesOf (s.extract 0 q) = (bytesOf s).take q := by rw [MBytes.extract]; simp
  have hcut := opts_cut (bytesOf s).length (c := q) (Nat.le_refl _) (MBytes.range s) ho (by rw [bytesOf_length]; omega)
  have hj := row_j3 s l m hl hm n hn
  refine Ev.step (fun k => by simp only [crosswaylaw09_NdRow.j2]; rfl) ?_
  rw [e, hq]
  refine ev_neg (by omega) (ev_pos (by omega) (ev_pos (by omega) ?_))
  rw [Int.toNat_natCast]
  have hz : (s.extract 0 q).size ≤ s.size := by rw [← bytesOf_length, hx, List.length_take, bytesOf_length]; omega
  refine Ev.bind (opt_ev (s := s.extract 0 q) (by omega)) ?_
  rw [hx]
  refine ev_neg hcut.1 ?_
  by_cases h : (opts ((bytesOf s).take q)).2 = 0
  · refine ev_pos h ?_
    have h2 := hcut.2 h
    rw [hol] at h2
    rw [decide_eq_false (by omega)]
    exact hj
  · exact ev_neg h hj
theorem row_l0 (s : ByteArray) (l m : List Opt) (hs : s.size ≤ 5000) (ho : (opts (bytesOf s)).2 = 0) (hol : (opts (bytesOf s)).1 = l) (hm : m.length ≤ 5000) (c : Int) (hc : -9223372036854775808 ≤ c ∧ c ≤ 9223372036854775807) : ∀ d i : Nat, l.length = i + d →
    Ev (fun k => crosswaylaw09_NdRow.l0 k s c true l m (l ++ m) 0 ((total (l.take i) : Nat) : Int) (i : Int)) true := by
  have ht : total l = s.size := by
    have h1 := opts_total (bytesOf s).length (Nat.le_refl _) (MBytes.range s) ho
    rw [hol, bytesOf_length] at h1; exact h1
  have hl : l.length ≤ 5000 := by
    have h1 := opts_length (MBytes.range s) ho
    rw [hol, bytesOf_length] at h1; omega
  intro d
  induction d with
  | zero =>
    intro i hi
    rw [List.take_of_length_le (by omega), ht]
    refine Ev.step (fun k => by simp only [crosswaylaw09_NdRow.l0]; rfl) ?_
    refine ev_neg (by omega) ?_
    by_cases h0 : 0 < s.size
    · refine ev_pos (by omega) ?_
      by_cases hneg : c < 0
      · refine ev_pos hneg ?_
        have e1 : wrap64 (-(wrap64 (c + 1))) = -(c + 1) := by rw [w64 (n := c + 1) (by omega) (by omega), w64 (by omega) (by omega)]
        rw [e1]
        exact row_j2 s l m hs h0 ho hol hl hm _ rfl _ (by omega)
      · exact ev_neg hneg (row_j2 s l m hs h0 ho hol hl hm _ rfl c (by omega))
    · refine ev_neg (by omega) (ev_pos (by first | exact True.intro | exact rfl) (ev_pos (by first | exact True.intro | exact rfl) (ev_pos (by first | exact True.intro | exact rfl) (ev_pos (by omega) (ev_pos (by rw [List.length_append]; omega) ?_)))))
      rw [Int.toNat_natCast, List.take_left, List.drop_left]
      exact Ev.bind (same_ev l (by omega)) (ev_pos (by first | exact True.intro | exact rfl) (Ev.bind (same_ev m (by omega)) (ev_eq fun _ => rfl)))
  | succ d ih =>
    intro i hi
    have hlt : i < l.length := by omega
    have htt := total_take l hlt
    have hle : total (l.take (i + 1)) ≤ total l := by
      have key : ∀ (l : List Opt) (j : Nat), total (l.take j) ≤ total l := by
        intro l
        induction l with
        | nil => intro j; simp
        | cons x xs ih => intro j; cases j with
          | zero => simp [total]
          | succ j => have := ih j; simp only [List.take_succ_cons, total]; omega
      exact key l _
    refine Ev.step (fun k => by simp only [crosswaylaw09_NdRow.l0]; rfl) ?_
    refine ev_pos (by omega) (ev_pos (by omega) ?_)
    have er : rd_T43 l (i : Int) = l[i] := by simp [rd_T43, List.getElem?_eq_getElem hlt]
    have e1 : wrap64 ((i : Int) + 1) = ((i + 1 : Nat) : Int) := by rw [w64 (by omega) (by omega)]; omega
    have e2 : wrap64 ((wrap64 (((total (l.take i) : Nat) : Int) + 2)) + (((rd_T43 l (i : Int)).f1).size : Int)) = ((total (l.take (i + 1)) : Nat) : Int) := by
      rw [er, htt, w64 (n := ((total (l.take i) : Nat) : Int) + 2) (by omega) (by omega), w64 (by omega) (by omega)]; omega
    rw [e1, e2]
    exact ih (i + 1) (by omega)
theorem NdRow (s t : ByteArray) (c : Int) (_ : s.size ≤ 140737488351232) (_ : t.size ≤ 140737488351232) (wc : (Lit.int .i64 c).wf = true) : ∃ k, crosswaylaw09_NdRow.f k s t c = some true := by
  have hc := i64_of_wf wc
  refine Ev.rounds (r := true) ?_
  unfold crosswaylaw09_NdRow.f
  refine Ev.bind awake_ev ?_
  have big : Ev (fun k => crosswaylaw09_NdRow.j0 k s t c true true) true := by
    refine Ev.step (fun k => by simp only [crosswaylaw09_NdRow.j0]; rfl) ?_
    exact ev_pos (by first | exact True.intro | exact rfl) (ev_eq fun _ => rfl)
  by_cases hs : (s.size : Int) > 5000
  · exact ev_pos hs big
  refine ev_neg hs ?_
  by_cases ht : (t.size : Int) > 5000
  · rw [decide_eq_true ht]; exact big
  rw [decide_eq_false ht]
  refine Ev.step (fun k => by simp only [crosswaylaw09_NdRow.j0]; rfl) ?_
  have ha : bytesOf (s ++ t) = bytesOf s ++ bytesOf t := MBytes.append s t
  have hz : (s ++ t).size = s.size + t.size := by rw [← bytesOf_length, ha, List.length_append, bytesOf_length, bytesOf_length]
  refine ev_neg (by decide) (Ev.bind (opt_ev (s := s) (by omega)) (Ev.bind (opt_ev (s := t) (by omega)) (ev_pos (by omega) (Ev.bind (opt_ev (s := s ++ t) (by omega)) ?_))))
  rw [ha]
  by_cases h80 : (opts (bytesOf s)).2 = 80
  · have h1 := opts_form (bytesOf s).length (y := bytesOf t) (Nat.le_refl _) (MBytes.range s) (MBytes.range t) h80
    refine ev_pos h80 (ev_pos (by first | exact True.intro | exact rfl) (ev_pos (by rw [h1, h80]) (ev_eq fun _ => by rw [h1]; rfl)))
  refine ev_neg h80 ?_
  by_cases h0 : (opts (bytesOf s)).2 = 0
  · refine ev_pos h0 ?_
    have h1 := opts_append (bytesOf s).length (y := bytesOf t) (Nat.le_refl _) (MBytes.range s) (MBytes.range t) h0
    by_cases h2 : (opts (bytesOf t)).2 = 0
    · rw [if_pos h2] at h1
      refine ev_pos h2 ?_
      rw [h1]
      have hm := opts_length (MBytes.range t) h2
      rw [bytesOf_length] at hm
      exact row_l0 s _ _ (by omega) h0 rfl (by omega) c hc (opts (bytesOf s)).1.length 0 (by omega)
    · rw [if_neg h2] at h1
      refine ev_neg h2 (ev_pos (by first | exact True.intro | exact rfl) (ev_pos (by rw [h1]) (ev_eq fun _ => by rw [h1]; rfl)))
  · exact ev_neg h0 (ev_eq fun _ => rfl)
end Go.Proofs.Ytkpncagfhiceoaa.Pure
