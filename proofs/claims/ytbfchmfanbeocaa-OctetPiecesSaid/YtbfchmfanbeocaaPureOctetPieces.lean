/-
  The pure law OctetPieces: the number of a width is the first byte's, times 256 for each byte behind it, and the rest's.
-/
import Derived.Test.YtbfchmfanbeocaaPBasex2
import Derived.Test.YtbfchmfanbeocaaPureGet
set_option linter.unusedVariables false
set_option linter.unusedSimpArgs false
namespace Go.Proofs.Ytbfchmfanbeocaa.Pure
open Go.RowKit Go.Proofs.Ytbfchmfanbeocaa.PBase Go.Proofs.YtbfchmfanbeocaaW.PrintWords Go.Proofs.YtbfchmfanbeocaaW.PrintLast Go.Proofs.Ytbfchmfanbeocaa.MTally Go.Proofs.Ytbfchmfanbeocaa.MBe
theorem pieces_l0 (w : Nat) (hw : w ≤ 8) (n m : Int) : ∀ (d i : Nat) (x : Int), w = i + d → 0 ≤ x → x * 256 ^ d < 18446744073709551616 → n = IntKind.u64.wrap (x * 256 ^ d + m) →
    Ev (fun k => crosswaylaw01_OctetPieces.l0 k (w : Int) true n x true m true (i : Int)) true := by
  intro d
  induction d with
  | zero =>
    intro i x he h0 hx hn
    refine Ev.step (f := fun _ => _) (fun k => ?_) (Ev.now _)
    simp only [crosswaylaw01_OctetPieces.l0]
    rw [if_neg (by omega), if_pos trivial, if_pos trivial, if_pos trivial, hn, Int.pow_zero, Int.mul_one]; simp
  | succ d ih =>
    intro i x he h0 hx hn
    have e1 : x * 256 ^ (d + 1) = x * 256 * 256 ^ d := by rw [Int.pow_succ, Int.mul_comm (256 ^ d), Int.mul_assoc]
    rw [e1] at hx hn
    have hp := pow_pos d
    have hs : x * 256 ≤ x * 256 * 256 ^ d := by
      have := Int.mul_le_mul_of_nonneg_left (show (1 : Int) ≤ 256 ^ d by omega) (show 0 ≤ x * 256 by omega)
      omega
    refine Ev.step (f := fun k => crosswaylaw01_OctetPieces.l0 k (w : Int) true n (x * 256) true m true ((i + 1 : Nat) : Int)) (fun k => ?_) (ih (i + 1) _ (by omega) (by omega) hx hn)
    simp only [crosswaylaw01_OctetPieces.l0]
    rw [if_pos (by omega), wu64 (n := x * 256) (by omega) (by omega), w64 (n := (i : Int) + 1) (by omega) (by omega)]; rfl
theorem OctetPieces (l : List Int) (a w : Int) (hl : l.length * 1 ≤ 140737488351232) (hb : ∀ x ∈ l, (Lit.int .u8 x).wf = true) (ha : (Lit.int .i64 a).wf = true) (hw : (Lit.int .i64 w).wf = true) :
    ∃ k, crosswaylaw01_OctetPieces.f k l a w = some true := by
  have hb := bytes_of_wf hb
  have ra := i64_of_wf ha
  have rw_ := i64_of_wf hw
  have hL : l.length ≤ 140737488355200 := by omega
  suffices h : Ev (fun k => crosswaylaw01_OctetPieces.f k l a w) true by
    obtain ⟨k, hk⟩ := h; exact ⟨k, hk k (Nat.le_refl k)⟩
  unfold crosswaylaw01_OctetPieces.f
  refine ev_bind rfl ?_
  refine Ev.bind (get_ev hb hL ra rw_) ?_
  by_cases hf : fits l a w
  · have e : get l a w = (num (slice_ l a w), true) := by unfold get; rw [if_pos hf]
    rw [e]
    refine ev_pos rfl ?_
    by_cases h0 : w = 0
    · exact ev_pos h0 (ev_eq fun _ => rfl)
    refine ev_neg h0 ?_
    have hf' := hf
    unfold fits at hf
    rw [w64 (n := a + 1) (by omega) (by omega), w64 (n := w - 1) (by omega) (by omega)]
    refine Ev.bind (get_ev hb hL ra (by omega)) ?_
    refine Ev.bind (get_ev hb hL (by omega) (by omega)) ?_
    have e1 : get l a 1 = (num (slice_ l a 1), true) := by unfold get; rw [if_pos (by unfold fits; omega)]
    have e2 : get l (a + 1) (w - 1) = (num (slice_ l (a + 1) (w - 1)), true) := by unfold get; rw [if_pos (by unfold fits; omega)]
    rw [e1, e2]
    obtain ⟨an, rfl⟩ := Int.eq_ofNat_of_zero_le (show 0 ≤ a by omega)
    obtain ⟨wn, rfl⟩ := Int.eq_ofNat_of_zero_le (show 0 ≤ w by omega)
    obtain ⟨d, rfl⟩ : ∃ d, wn = 1 + d := ⟨wn - 1, by omega⟩
    have hlt : an < l.length := by omega
    have s1 : slice_ l (an : Int) ((1 + d : Nat) : Int) = slice_ l (an : Int) 1 ++ slice_ l ((an : Int) + 1) (((1 + d : Nat) : Int) - 1) := by
      unfold slice_
      rw [show ((an : Int)).toNat = an by omega, show (((1 + d : Nat) : Int)).toNat = 1 + d by omega, show ((an : Int) + 1).toNat = an + 1 by omega, show (((1 + d : Nat) : Int) - 1).toNat = d by omega, show (1 : Int).toNat = 1 by rfl]
      rw [List.take_add, List.drop_drop]
    have L2 : (slice_ l ((an : Int) + 1) (((1 + d : Nat) : Int) - 1)).length = d := by
      rw [slice_length (by unfold fits; omega)]; omega
    have hn := num_lt8 (slice_bytes hb (an : Int) ((1 + d : Nat) : Int)) (by rw [slice_length hf']; omega)
    have hx := num_lt8 (slice_bytes hb (an : Int) 1) (by rw [slice_length (by unfold fits; omega)]; decide)
    have hy := num_lt8 (slice_bytes hb ((an : Int) + 1) (((1 + d : Nat) : Int) - 1)) (by rw [L2]; omega)
    rw [s1, num_append, L2] at hn ⊢
    exact pieces_l0 (1 + d) (by omega) _ _ d 1 _ rfl hx.1 (Int.lt_of_le_of_lt (Int.le_add_of_nonneg_right hy.1) hn.2) (by rw [wu64 hn.1 hn.2])
  · have e : get l a w = (0, false) := by unfold get; rw [if_neg hf]
    rw [e]
    refine ev_neg (by decide) ?_
    exact ev_eq fun _ => rfl
end Go.Proofs.Ytbfchmfanbeocaa.Pure
