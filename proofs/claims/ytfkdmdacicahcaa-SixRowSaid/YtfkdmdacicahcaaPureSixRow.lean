/-
  The pure law SixRow: further headers stand one behind the other without a gap; with more bytes behind they stay. For all numbers and strings.
-/
import Derived.Test.YtfkdmdacicahcaaPBasex17
import Derived.Test.YtfkdmdacicahcaaPureSixChain
set_option linter.unusedVariables false
set_option linter.unusedSectionVars false
set_option linter.unusedSimpArgs false
namespace Go.Proofs.Ytfkdmdacicahcaa.Pure
open Go.RowKit Go.Proofs.Ytfkdmdacicahcaa.PBase Go.Proofs.YtfkdmdacicahcaaW.PrintWords Go.Proofs.YtfkdmdacicahcaaW.PrintLast Go.Proofs.YtfkdmdacicahcaaW.PrintMore Go.Proofs.Ytfkdmdacicahcaa.MTally Go.Proofs.Ytfkdmdacicahcaa.MBe
theorem row_loop (next : Int) (s b : ByteArray) (hs : s.size ≤ 140737488351232) (hb : b.size ≤ 5000) {l : List S41} {last e : Int} (hr : ip6_Chain.l s 18 next [] 0 = some (l, last, e, 0)) (hl : l.length ≤ 16) (hrow : Row s next 0 l last e) :
    ∀ (xs pre : List S41) (n p : Int), l = pre ++ xs → Row s n p xs last e → 0 ≤ p → Ev (fun k => crosswaylaw07_SixRow.l0 k next s b true l last e n p (pre.length : Int)) true
  | [], pre, n, p, hx, hnp, hp => by
    obtain ⟨rfl, rfl⟩ := hnp
    have hz : l.length = pre.length := by rw [hx]; simp
    have hsz : (s ++ b).size = s.size + b.size := ByteArray.size_append
    obtain ⟨r', h1, h2⟩ := chain_ok next (s ++ b) (by omega)
    have hst := chain_stays s b 18 next [] 0 l n p (by omega) hr
    obtain rfl : r' = (l, n, p, 0) := by rw [hst] at h2; exact (Option.some.inj h2).symm
    have hh := headR_le hrow (Int.le_refl 0) (Int.le_refl 0) (Int.le_refl 0)
    refine Ev.step (fun k => by simp only [crosswaylaw07_SixRow.l0]; rfl) ?_
    refine ev_neg (by omega) (ev_pos (by omega) (ev_bind h1 (Ev.bind (head_ev next s (by omega) hr) (ev_pos (by first | exact True.intro | exact rfl) (ev_pos (by first | exact True.intro | exact rfl) (ev_pos (by first | exact True.intro | exact rfl) (ev_pos (by first | exact True.intro | exact rfl) (Ev.bind (same_ev l (by omega)) (ev_pos (by first | exact True.intro | exact rfl) (ev_pos (by first | exact True.intro | exact rfl) (ev_pos (by first | exact True.intro | exact rfl) (ev_pos hh.1 (ev_eq fun _ => ?_)))))))))))))
    rw [decide_eq_true hh.2]
  | x :: xs, pre, n, p, hx, ⟨hk, h0, h1, h8, hm, h9, hr'⟩, hp => by
    have hz : l.length = pre.length + (xs.length + 1) := by rw [hx]; simp
    have b0 := bt_range s p
    refine Ev.step (fun k => by simp only [crosswaylaw07_SixRow.l0]; rfl) ?_
    rw [rd41 hx]
    have ew : wrap64 ((pre.length : Int) + 1) = ((pre ++ [x]).length : Int) := by rw [w64 (by omega) (by omega)]; simp
    have ep : wrap64 (x.f1 + x.f2) = x.f1 + x.f2 := w64 (by omega) (by omega)
    have eq : wrap64 (p + x.f2) = p + x.f2 := w64 (by omega) (by omega)
    have eb : wrap64 (bt s p) = bt s p := w64 (by omega) (by omega)
    rw [ew, ep, eq, eb]
    have hmod : Int.tmod x.f2 8 = 0 := by rw [Int.tmod_eq_emod_of_nonneg (by omega)]; exact hm
    exact ev_pos (by omega) (ev_pos (by omega) (ev_pos h0 (ev_pos h1 (ev_neg (by omega) (ev_pos hmod (ev_neg (by omega) (ev_pos hp (ev_pos (by omega)
      (row_loop next s b hs hb hr hl hrow xs (pre ++ [x]) _ _ (by rw [hx]; simp) hr' (by omega))))))))))
theorem row_j0 (next : Int) (s b : ByteArray) (hs : s.size ≤ 140737488351232) (hb : b.size ≤ 5000) : Ev (fun k => crosswaylaw07_SixRow.j0 k next s b true) true := by
  obtain ⟨r, h1, h2⟩ := chain_ok next s (by omega)
  have h16 := chain_sixteen s 18 next [] 0 _ (by simp) h2
  refine Ev.step (fun k => by simp only [crosswaylaw07_SixRow.j0]; rfl) (ev_bind h1 ?_)
  rcases chain_row s 18 next [] 0 _ h2 with ⟨e, he, rfl⟩ | ⟨xs, last, e, rfl, hx⟩
  · exact ev_neg he (ev_pos (by first | exact True.intro | exact rfl) (ev_pos (by first | exact True.intro | exact rfl) (ev_pos (by first | exact True.intro | exact rfl) (ev_pos (by first | exact True.intro | exact rfl) (Ev.bind (head_ev next s (by omega) h2) (ev_eq fun _ => rfl))))))
  · rw [List.nil_append] at h2 h16 ⊢
    simp only at h16
    exact ev_pos (by first | exact True.intro | exact rfl) (row_loop next s b hs hb h2 h16 hx xs [] next 0 rfl hx (Int.le_refl 0))
theorem SixRow (next : Int) (s b : ByteArray) (hn : (Lit.int .i64 next).wf = true) (hs : s.size ≤ 140737488351232) (hb : b.size ≤ 140737488351232) : ∃ k, crosswaylaw07_SixRow.f k next s b = some true := by
  refine Ev.rounds (r := true) ?_
  unfold crosswaylaw07_SixRow.f
  refine Ev.bind awake_ev ?_
  by_cases h : (b.size : Int) > 5000
  · exact ev_pos h (ev_pos (by omega) (ev_pos (by omega) (row_j0 next s _ hs (by rw [← bytesOf_length, MBytes.extract]; simp; omega))))
  · exact ev_neg h (row_j0 next s b hs (by omega))
end Go.Proofs.Ytfkdmdacicahcaa.Pure
