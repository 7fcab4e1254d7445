/-
  The pure law ExcuseNever: of what was told nothing is told, whatever the reason. No program in sight but its Lean functions. Conditions: those of each theorem.
-/
import Derived.Test.YtaoopneiglgnkaaDoorPBasex31
import Derived.Test.YtaoopneiglgnkaaDoorPureTold
set_option linter.unusedVariables false
set_option linter.unusedSectionVars false
set_option linter.unusedSimpArgs false
namespace Go.Proofs.YtaoopneiglgnkaaDoor.Pure
open Go.RowKit Go.Proofs.YtaoopneiglgnkaaDoor.PBase Go.Proofs.YtaoopneiglgnkaaDoorW.PrintWords Go.Proofs.YtaoopneiglgnkaaDoorW.PrintLast Go.Proofs.YtaoopneiglgnkaaDoorW.PrintMore Go.Proofs.YtaoopneiglgnkaaDoor.MTally Go.Proofs.YtaoopneiglgnkaaDoor.MBe
theorem awake_ev : Ev (fun k => crosswaylaw20_awake.f k) true := Ev.of (fun k => crosswaylaw20_awake.mono k) (k := 100) (by decide +kernel)
theorem ExcuseNever (why : Int) (s : ByteArray) (b : Bool) (h l rest again : Int) (b5 : Bool) (h5 l5 : Int) (w1 : (Lit.int .i64 why).wf = true) (hs : s.size ≤ 140737488351232) (w2 : (Lit.int .u64 h).wf = true) (w3 : (Lit.int .u64 l).wf = true) (w4 : (Lit.int .i64 rest).wf = true) (w5 : (Lit.int .i64 again).wf = true)
    (w6 : (Lit.int .u64 h5).wf = true) (w7 : (Lit.int .u64 l5).wf = true) : ∃ k, crosswaylaw20_ExcuseNever.f k why s b h l rest again b5 h5 l5 = some true := by
  refine Ev.rounds (r := true) ?_
  unfold crosswaylaw20_ExcuseNever.f
  refine Ev.bind awake_ev (Ev.bind (of_ev hs (u64_of_wf w2) (u64_of_wf w3)) ?_)
  by_cases hx : argB why (sixB s) b h l rest = true ∧ mayR s = true
  · obtain ⟨t1, t2, t3⟩ := tell_ok (u64_of_wf w2) (u64_of_wf w3) hx.1 hx.2
    obtain ⟨x, hxx⟩ : ∃ x, ofR why s b h l rest = x := ⟨_, rfl⟩
    rw [hxx] at t1 t2 t3 ⊢
    refine ev_pos t1 (Ev.bind (of_ev (s := x.1) (by omega) (u64_of_wf w6) (u64_of_wf w7)) (ev_pos (by first | exact True.intro | exact rfl) (Ev.bind (may_ev (s := x.1) (by omega)) ?_)))
    rw [t2]
    refine ev_neg (by decide) ?_
    rcases of_refused (why := again) (s := x.1) (b := b5) (h := h5) (l := l5) (rest := 0) (fun q => by rw [t2] at q; exact absurd q.2 (by decide)) with e | e
    · rw [e]
      exact ev_pos (by simp) (ev_pos (by decide) (ev_eq fun _ => rfl))
    · rw [e]
      exact ev_pos (by simp) (ev_neg (by decide) (ev_eq fun _ => rfl))
  · rcases of_refused hx with e | e
    · rw [e]
      exact ev_neg (by decide) (ev_pos (by first | exact True.intro | exact rfl) (ev_pos (by simp) (ev_pos (by decide) (ev_eq fun _ => rfl))))
    · rw [e]
      exact ev_neg (by decide) (ev_pos (by first | exact True.intro | exact rfl) (ev_pos (by simp) (ev_neg (by decide) (ev_eq fun _ => rfl))))
end Go.Proofs.YtaoopneiglgnkaaDoor.Pure
