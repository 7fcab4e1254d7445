/-
  What the readers of Solicits and Adverts come to; the pure law NdBack. No program in sight but its Lean functions. Conditions: those of each theorem.
-/
import Derived.Test.YtkpncagfhiceoaaPBasex16
import Derived.Test.YtkpncagfhiceoaaPureNdTaken
set_option linter.unusedVariables false
set_option linter.unusedSimpArgs false
namespace Go.Proofs.Ytkpncagfhiceoaa.Pure
open Go.RowKit Go.Proofs.Ytkpncagfhiceoaa.PBase Go.Proofs.YtkpncagfhiceoaaW.PrintWords Go.Proofs.YtkpncagfhiceoaaW.PrintLast Go.Proofs.Ytkpncagfhiceoaa.MTally Go.Proofs.Ytkpncagfhiceoaa.MBe
theorem back_j0 (t1 : Bool) (h1 l1 : Int) (br ba bo has1 : Bool) (m1 : Int) (hh : 0 ≤ h1 ∧ h1 ≤ 18446744073709551615) (hl : 0 ≤ l1 ∧ l1 ≤ 18446744073709551615) (hm : 0 ≤ m1 ∧ m1 ≤ 18446744073709551615)
    (e : Int) (c0 : Bool) (c1 c2 c3 : Int) (c4 : ByteArray) (he : e = 0 ∨ (e = 80 ∧ c0 = false ∧ c1 = 0 ∧ c2 = 0 ∧ c3 = 0 ∧ c4 = ⟨#[]⟩)) :
    Ev (fun k => crosswaylaw09_NdBack.j0 k true e t1 h1 l1 br ba bo has1 m1 c0 c1 c2 c3 c4) true := by
  refine Ev.step (fun k => by simp only [crosswaylaw09_NdBack.j0]; rfl) ?_
  refine Ev.bind (laid_ev 136 (nd_laid.rest br ba bo) 2 t1 h1 l1 has1 m1) ?_
  cases hb : mayB t1 h1 l1 has1 m1
  · rw [show msg 136 (nd_laid.rest br ba bo) 2 t1 h1 l1 has1 m1 = (false, 0, 0, 0, ⟨#[]⟩, 80) by unfold msg; rw [hb]; rfl]
    refine ev_neg (by decide) (ev_pos (by first | exact True.intro | exact rfl) ?_)
    rcases he with rfl | ⟨rfl, rfl, rfl, rfl, rfl, rfl⟩
    · exact ev_pos rfl (ev_pos rfl (ev_eq fun _ => by decide +kernel))
    · exact ev_neg (by decide) (ev_pos rfl (ev_pos (by decide +kernel) (ev_pos rfl (ev_eq fun _ => by decide +kernel))))
  · rw [show msg 136 (nd_laid.rest br ba bo) 2 t1 h1 l1 has1 m1 = (true, 136, 0, nd_laid.rest br ba bo, strOfNums (D 2 t1 h1 l1 has1 m1), 0) by unfold msg; rw [hb]; rfl]
    obtain ⟨ht, _⟩ := may_of hb
    subst ht
    refine ev_pos rfl (Ev.bind (tell_back hb hh hl hm br ba bo) (Ev.bind (ask_not (show (136 : Int) ≠ 135 by decide)) ?_))
    refine ev_pos rfl (ev_neg (by simp) (ev_pos rfl (ev_pos (by first | exact True.intro | exact rfl) ?_)))
    rcases he with rfl | ⟨rfl, rfl, rfl, rfl, rfl, rfl⟩
    · exact ev_pos rfl (ev_eq fun _ => rfl)
    · exact ev_neg (by decide) (ev_pos rfl (ev_pos (by decide +kernel) (ev_eq fun _ => rfl)))
theorem NdBack (t : Bool) (h l : Int) (has : Bool) (m : Int) (t1 : Bool) (h1 l1 : Int) (br ba bo has1 : Bool) (m1 : Int) (w1 : (Lit.int .u64 h).wf = true) (w2 : (Lit.int .u64 l).wf = true) (w3 : (Lit.int .u64 m).wf = true) (w4 : (Lit.int .u64 h1).wf = true) (w5 : (Lit.int .u64 l1).wf = true) (w6 : (Lit.int .u64 m1).wf = true) :
    ∃ k, crosswaylaw09_NdBack.f k t h l has m t1 h1 l1 br ba bo has1 m1 = some true := by
  have hh := u64_of_wf w1
  have hl := u64_of_wf w2
  have hm := u64_of_wf w3
  have hj := back_j0 t1 h1 l1 br ba bo has1 m1 (u64_of_wf w4) (u64_of_wf w5) (u64_of_wf w6)
  refine Ev.rounds (r := true) ?_
  unfold crosswaylaw09_NdBack.f
  refine Ev.bind awake_ev (Ev.bind (laid_ev 135 0 1 t h l has m) ?_)
  cases hb : mayB t h l has m
  · rw [show msg 135 0 1 t h l has m = (false, 0, 0, 0, ⟨#[]⟩, 80) by unfold msg; rw [hb]; rfl]
    exact ev_neg (by decide) (hj 80 false 0 0 0 ⟨#[]⟩ (.inr ⟨rfl, rfl, rfl, rfl, rfl, rfl⟩))
  · rw [show msg 135 0 1 t h l has m = (true, 135, 0, 0, strOfNums (D 1 t h l has m), 0) by unfold msg; rw [hb]; rfl]
    obtain ⟨ht, _⟩ := may_of hb
    subst ht
    refine ev_pos rfl (Ev.bind (ask_back hb hh hl hm) (Ev.bind (tell_not (show (135 : Int) ≠ 136 by decide)) ?_))
    refine ev_pos rfl (ev_neg (by simp) (ev_pos rfl ?_))
    exact hj 0 _ _ _ _ _ (.inl rfl)
end Go.Proofs.Ytkpncagfhiceoaa.Pure
