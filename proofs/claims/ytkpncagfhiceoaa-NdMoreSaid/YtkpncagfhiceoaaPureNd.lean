/-
  What the functions of layer 9 that lay come to, the document's beside them; the pure law NdLays. No program in sight but their Lean functions. Conditions: those of each theorem.
-/
import Derived.Test.YtkpncagfhiceoaaPBasex13
import Derived.Test.YtkpncagfhiceoaaPureAddr
set_option linter.unusedVariables false
set_option linter.unusedSimpArgs false
namespace Go.Proofs.Ytkpncagfhiceoaa.Pure
open Go.RowKit Go.Proofs.Ytkpncagfhiceoaa.PBase Go.Proofs.YtkpncagfhiceoaaW.PrintWords Go.Proofs.YtkpncagfhiceoaaW.PrintLast Go.Proofs.Ytkpncagfhiceoaa.MTally Go.Proofs.Ytkpncagfhiceoaa.MBe
theorem awake_ev : Ev (fun k => crosswaylaw09_awake.f k) true := Ev.of (fun k => crosswaylaw09_awake.mono k) (k := 100) (by decide +kernel)
def mayB (t : Bool) (h l : Int) (has : Bool) (m : Int) : Bool := t && (decide (cls t h l ≠ 3) && (decide (cls t h l ≠ 0) && (decide (m < 281474976710656) && (has || m == 0))))
theorem may_eq (t : Bool) (h l : Int) (has : Bool) (m : Int) : nd_may.f t h l has m = some (mayB t h l has m) := by
  unfold nd_may.f mayB
  rw [class_eq, Option.bind_some]
  cases t
  · rfl
  · by_cases c3 : cls true h l = 3
    · simp [c3]
    · by_cases c0 : cls true h l = 0
      · simp [c0]
      · by_cases cm : m < 281474976710656
        · cases has <;> simp [c3, c0, cm]
        · simp [c3, c0, cm]
theorem right_ev (t : Bool) (h l : Int) (has : Bool) (m : Int) (hh : 0 ≤ h ∧ h ≤ 18446744073709551615) (hl : 0 ≤ l ∧ l ≤ 18446744073709551615) : Ev (fun k => crosswayref09_right.f k t h l has m) (mayB t h l has m) := by
  unfold crosswayref09_right.f crosswayref09_whom.f mayB
  have hc := rclass_ev t h l hh hl
  cases t
  · exact Ev.bind (Ev.bind hc (ev_eq fun _ => rfl)) (ev_eq fun _ => rfl)
  · by_cases c3 : cls true h l = 3
    · exact Ev.bind (Ev.bind (r := false) hc (ev_eq fun _ => by rw [if_pos rfl, if_pos c3])) (ev_eq fun _ => by simp [c3])
    · refine Ev.bind (Ev.bind (r := decide (cls true h l ≠ 0)) hc (ev_eq fun _ => by rw [if_pos rfl, if_neg c3]; congr 1; rw [Bool.eq_iff_iff]; simp)) (ev_eq fun _ => ?_)
      by_cases c0 : cls true h l = 0
      · simp [c0]
      · by_cases cm : m < 281474976710656
        · cases has <;> simp [c3, c0, cm]
        · simp [c3, c0, cm]
/-- A message's data: an address, and the Mac that an option tells. -/
def D (opt : Int) (t : Bool) (h l : Int) (has : Bool) (m : Int) : List Int := adr t h l ++ (if has = true then [opt, 1] ++ be m 6 else [])
def msg (kind rest opt : Int) (t : Bool) (h l : Int) (has : Bool) (m : Int) : Bool × Int × Int × Int × ByteArray × Int :=
  if mayB t h l has m = true then (true, kind, 0, rest, strOfNums (D opt t h l has m), 0) else (false, 0, 0, 0, ⟨#[]⟩, 80)
theorem adr_length (t : Bool) (h l : Int) : (adr t h l).length ≤ 16 := by
  unfold adr; split
  · rw [List.length_append, be_length, be_length]; exact Nat.le_refl _
  · split
    · rw [be_length]; omega
    · simp
theorem laid_ev (kind rest opt : Int) (t : Bool) (h l : Int) (has : Bool) (m : Int) : Ev (fun k => nd_laid.f k kind rest opt t h l has m) (msg kind rest opt t h l has m) := by
  unfold nd_laid.f msg
  refine ev_bind (may_eq t h l has m) ?_
  cases hm : mayB t h l has m
  · exact ev_pos rfl (ev_eq fun _ => rfl)
  · refine ev_neg (by decide) (Ev.bind (bytes_ev t h l) (ev_neg (by have := adr_length t h l; omega) (ev_eq fun _ => ?_)))
    rw [if_pos rfl]
    unfold D
    cases has
    · simp
    · simp
theorem rdata_ev (t : Bool) (h l : Int) (has : Bool) (opt m : Int) (hh : 0 ≤ h ∧ h ≤ 18446744073709551615) (hl : 0 ≤ l ∧ l ≤ 18446744073709551615) (hm : 0 ≤ m ∧ m ≤ 18446744073709551615) : Ev (fun k => crosswayref09_data.f k t h l has opt m) (strOfNums (D opt t h l has m)) := by
  unfold crosswayref09_data.f D
  have ha := adr_length t h l
  refine Ev.bind (rbytes_ev t h l hh hl) ?_
  cases has
  · exact ev_neg (by decide) (ev_eq fun _ => by simp)
  · refine ev_pos rfl (ev_bind rfl (ev_pos (by simp only [List.length_cons, List.length_nil]; omega) ?_))
    have h1 := rput_ev (adr t h l ++ [opt, 1]) 6 m hm (by simp only [List.length_append, List.length_cons, List.length_nil]; omega)
    rw [show wid 6 = 6 from wid_of (w := 6) (by decide)] at h1
    refine Ev.bind h1 (ev_eq fun _ => by rw [if_pos rfl, List.append_assoc])
theorem rask_ev (t : Bool) (h l : Int) (has : Bool) (m : Int) (hh : 0 ≤ h ∧ h ≤ 18446744073709551615) (hl : 0 ≤ l ∧ l ≤ 18446744073709551615) (hm : 0 ≤ m ∧ m ≤ 18446744073709551615) : Ev (fun k => crosswayref09_Ask.f k t h l has m) (msg 135 0 1 t h l has m) := by
  unfold crosswayref09_Ask.f msg
  refine Ev.bind (right_ev t h l has m hh hl) ?_
  cases hb : mayB t h l has m
  · exact ev_neg (by decide) (ev_eq fun _ => rfl)
  · exact ev_pos rfl (Ev.bind (rdata_ev t h l has 1 m hh hl hm) (ev_eq fun _ => rfl))
theorem rest_eq (a b c : Bool) : nd_laid.rest a b c = (if a = true then 2147483648 else 0) + (if b = true then 1073741824 else 0) + (if c = true then 536870912 else 0) := by
  cases a <;> cases b <;> cases c <;> decide +kernel
theorem rtell_ev (t : Bool) (h l : Int) (br ba bo has : Bool) (m : Int) (hh : 0 ≤ h ∧ h ≤ 18446744073709551615) (hl : 0 ≤ l ∧ l ≤ 18446744073709551615) (hm : 0 ≤ m ∧ m ≤ 18446744073709551615) : Ev (fun k => crosswayref09_Tell.f k t h l br ba bo has m) (msg 136 (nd_laid.rest br ba bo) 2 t h l has m) := by
  unfold crosswayref09_Tell.f msg
  refine Ev.bind (right_ev t h l has m hh hl) ?_
  cases hb : mayB t h l has m
  · exact ev_neg (by decide) (ev_eq fun _ => rfl)
  · have hd := rdata_ev t h l has 2 m hh hl hm
    have st : ∀ x : Int, (x = if br = true then 2147483648 else 0) → Ev (fun k => crosswayref09_Tell.j0 k x t h l br ba bo has m) (true, 136, 0, nd_laid.rest br ba bo, strOfNums (D 2 t h l has m), 0) := by
      intro x hx
      subst hx
      cases ba <;> cases bo
      all_goals
        refine Ev.step (f := fun k => (crosswayref09_data.f k t h l has 2 m).bind fun d => some (true, 136, 0, nd_laid.rest br _ _, d, 0)) (fun k => ?_) (Ev.bind hd (ev_eq fun _ => rfl))
        simp only [crosswayref09_Tell.j0, if_true, Bool.false_eq_true, if_false]
        congr 1; funext d
        rw [rest_eq]
        cases br <;> simp [wrap64]
    refine ev_pos rfl ?_
    cases br
    · exact ev_neg (by decide) (st 0 rfl)
    · exact ev_pos rfl (st (0 + 2147483648) rfl)
theorem beq_self5 (a : Bool) (b c d : Int) (s : ByteArray) : (a == a && (b == b && (c == c && (d == d && (s.toList == s.toList))))) = true := by simp
theorem NdLays (t : Bool) (h l : Int) (has : Bool) (m : Int) (t1 : Bool) (h1 l1 : Int) (br ba bo has1 : Bool) (m1 : Int) (w1 : (Lit.int .u64 h).wf = true) (w2 : (Lit.int .u64 l).wf = true) (w3 : (Lit.int .u64 m).wf = true) (w4 : (Lit.int .u64 h1).wf = true) (w5 : (Lit.int .u64 l1).wf = true) (w6 : (Lit.int .u64 m1).wf = true) :
    ∃ k, crosswaylaw09_NdLays.f k t h l has m t1 h1 l1 br ba bo has1 m1 = some true := by
  refine Ev.rounds (r := true) ?_
  unfold crosswaylaw09_NdLays.f
  refine Ev.bind awake_ev (Ev.bind (laid_ev 135 0 1 t h l has m) (Ev.bind (rask_ev t h l has m (u64_of_wf w1) (u64_of_wf w2) (u64_of_wf w3)) (Ev.bind (laid_ev 136 (nd_laid.rest br ba bo) 2 t1 h1 l1 has1 m1) (Ev.bind (rtell_ev t1 h1 l1 br ba bo has1 m1 (u64_of_wf w4) (u64_of_wf w5) (u64_of_wf w6)) (ev_pos rfl (ev_pos (beq_self5 ..) (ev_pos rfl (ev_pos (beq_self5 ..) (ev_eq fun _ => by simp)))))))))
end Go.Proofs.Ytkpncagfhiceoaa.Pure
