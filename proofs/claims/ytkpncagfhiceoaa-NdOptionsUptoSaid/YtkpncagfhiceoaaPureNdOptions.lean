/-
  The pure law NdOptions. No program in sight but its Lean functions. Conditions: those of each theorem.
-/
import Derived.Test.YtkpncagfhiceoaaPBasex15
import Derived.Test.YtkpncagfhiceoaaPureNdOpt
set_option linter.unusedVariables false
set_option linter.unusedSimpArgs false
namespace Go.Proofs.Ytkpncagfhiceoaa.Pure
open Go.RowKit Go.Proofs.Ytkpncagfhiceoaa.PBase Go.Proofs.YtkpncagfhiceoaaW.PrintWords Go.Proofs.YtkpncagfhiceoaaW.PrintLast Go.Proofs.Ytkpncagfhiceoaa.MTally Go.Proofs.Ytkpncagfhiceoaa.MBe
theorem options_loop (s : ByteArray) (e : Int) (ys : List Opt) (hs : s.size ≤ 1048576) (hys : ys = (opts (bytesOf s)).1) : ∀ (d i : Nat) (xs : List Opt), xs.length ≤ 1048576 → xs.length = i + d → Ev (fun k => crosswaylaw09_NdOptions.l0 k s true xs e ys e true (i : Int)) true := by
  intro d
  induction d with
  | zero =>
    intro i xs hx hi
    refine Ev.step (fun k => by simp only [crosswaylaw09_NdOptions.l0]; rfl) ?_
    have hl : ys.length ≤ 1048576 := by
      subst hys
      rcases opts_err ((bytesOf s).length + 1) (bytesOf s) with h1 | ⟨h1, _⟩
      · have h1 : (opts (bytesOf s)).2 = 0 := h1
        have := opts_length (MBytes.range s) h1
        rw [bytesOf_length] at this; omega
      · have h1 : (opts (bytesOf s)).1 = [] := h1
        rw [h1]; simp
    refine ev_neg (by omega) (Ev.bind (opt_ev (s := s) (by omega)) (ev_pos (by first | exact True.intro | exact rfl) (ev_pos (by first | exact True.intro | exact rfl) (ev_pos (by first | exact True.intro | exact rfl) ?_))))
    rw [← hys]
    exact Ev.bind (same_ev ys (by omega)) (ev_eq fun _ => rfl)
  | succ d ih =>
    intro i xs hx hi
    refine Ev.step (fun k => by simp only [crosswaylaw09_NdOptions.l0]; rfl) ?_
    refine ev_pos (by omega) (ev_pos (by omega) ?_)
    have ew : wrap64 ((i : Int) + 1) = ((i + 1 : Nat) : Int) := by rw [w64 (by omega) (by omega)]; omega
    rw [ew]
    exact ih (i + 1) _ (by rw [List.length_set]; omega) (by rw [List.length_set]; omega)
theorem NdOptions (s : ByteArray) (_ : s.size ≤ 140737488351232) (hs : s.size ≤ 1048576) : ∃ k, crosswaylaw09_NdOptions.f k s = some true := by
  refine Ev.rounds (r := true) ?_
  unfold crosswaylaw09_NdOptions.f
  have hl : (opts (bytesOf s)).1.length ≤ 1048576 := by
    rcases opts_err ((bytesOf s).length + 1) (bytesOf s) with h1 | ⟨h1, _⟩
    · have h1 : (opts (bytesOf s)).2 = 0 := h1
      have := opts_length (MBytes.range s) h1
      rw [bytesOf_length] at this; omega
    · have h1 : (opts (bytesOf s)).1 = [] := h1
      rw [h1]; simp
  refine Ev.bind awake_ev (Ev.bind (opt_ev (s := s) (by omega)) (Ev.bind (ropt_ev (s := s) (by omega)) (Ev.bind (same_ev _ (by omega)) ?_)))
  exact options_loop s _ _ hs rfl (opts (bytesOf s)).1.length 0 _ hl (by omega)
end Go.Proofs.Ytkpncagfhiceoaa.Pure
