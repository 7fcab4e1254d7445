/-
  What the reference's functions of layer 1 come to: Same, Get, Put; and the law's low.
-/
import Derived.Test.YtbfchmfanbeocaaPBasex2
import Derived.Test.YtbfchmfanbeocaaPureGet
set_option linter.unusedVariables false
set_option linter.unusedSimpArgs false
namespace Go.Proofs.Ytbfchmfanbeocaa.Pure
open Go.RowKit Go.Proofs.Ytbfchmfanbeocaa.PBase Go.Proofs.YtbfchmfanbeocaaW.PrintWords Go.Proofs.YtbfchmfanbeocaaW.PrintLast Go.Proofs.Ytbfchmfanbeocaa.MTally Go.Proofs.Ytbfchmfanbeocaa.MBe
/-! Same: a row beside itself. -/
theorem same_l0 {l : List Int} (hl : l.length ≤ 140737488355328) : ∀ d i : Nat, l.length = i + d → Ev (fun k => crosswayref01_Same.l0 k l l (i : Int)) true := by
  intro d
  induction d with
  | zero =>
    intro i he
    refine Ev.step (f := fun _ => _) (fun k => ?_) (Ev.now _)
    simp only [crosswayref01_Same.l0]; rw [if_neg (by omega)]
  | succ d ih =>
    intro i he
    refine Ev.step (f := fun k => crosswayref01_Same.l0 k l l ((i + 1 : Nat) : Int)) (fun k => ?_) (ih (i + 1) (by omega))
    simp only [crosswayref01_Same.l0]
    rw [if_pos (by omega), if_pos (by omega), if_pos (by omega), w64 (n := (i : Int) + 1) (by omega) (by omega), if_pos trivial]; rfl
theorem same_ev {l : List Int} (hl : l.length ≤ 140737488355328) : Ev (fun k => crosswayref01_Same.f k l l) true := by
  unfold crosswayref01_Same.f
  exact ev_pos rfl (same_l0 hl l.length 0 (by omega))
/-! The reference's Get. -/
theorem rget_l0 {l : List Int} (hb : Bytes l) (hl : l.length ≤ 140737488355200) {a w : Nat} (hw : w ≤ 8) (hf : a + w ≤ l.length) : ∀ d i : Nat, w = i + d →
    Ev (fun k => crosswayref01_Get.l0 k l (a : Int) (w : Int) (num ((l.drop a).take i)) (((a + i : Nat) : Int))) (num ((l.drop a).take w), true) := by
  intro d
  induction d with
  | zero =>
    intro i he
    have e : i = w := by omega
    subst e
    refine Ev.step (f := fun _ => _) (fun k => ?_) (Ev.now _)
    simp only [crosswayref01_Get.l0]; rw [w64 (n := (a : Int) + (i : Int)) (by omega) (by omega), if_neg (by omega)]
  | succ d ih =>
    intro i he
    have hlt : a + i < l.length := by omega
    have hbt := byte_at hb hlt
    have hn := num_lt (l := (l.drop a).take i) ((hb.drop _).take _) (by rw [List.length_take]; omega)
    refine Ev.step (f := fun k => crosswayref01_Get.l0 k l (a : Int) (w : Int) (num ((l.drop a).take (i + 1))) ((a + (i + 1) : Nat) : Int)) (fun k => ?_) (ih (i + 1) (by omega))
    simp only [crosswayref01_Get.l0]
    rw [w64 (n := (a : Int) + (w : Int)) (by omega) (by omega), if_pos (by omega), if_pos (by omega), if_pos (by omega), w64 (n := ((a + i : Nat) : Int) + 1) (by omega) (by omega)]
    rw [rd_at hlt, wu64 (n := _ * 256) (by omega) (by omega), wu64 (n := l[a + i]) (by omega) (by omega), wu64 (by omega) (by omega), take_snoc hlt, num_snoc]; rfl
theorem rget_ev {l : List Int} (hb : Bytes l) (hl : l.length ≤ 140737488355200) {a w : Int} (ha : -9223372036854775808 ≤ a ∧ a ≤ 9223372036854775807) (hw : -9223372036854775808 ≤ w ∧ w ≤ 9223372036854775807) :
    Ev (fun k => crosswayref01_Get.f k l a w) (get l a w) := by
  have none_ : ∀ k x0 x1 x2, crosswayref01_Get.j0 (k + 1) x0 x1 x2 true = some (0, false) := fun k x0 x1 x2 => by simp only [crosswayref01_Get.j0]; rw [if_pos trivial]
  have bad : ∀ {a' w' : Int}, Ev (fun k => crosswayref01_Get.j0 k l a' w' true) (0, false) := Ev.step (f := fun _ => _) (fun k => none_ k _ _ _) (Ev.now _)
  unfold crosswayref01_Get.f get
  by_cases h1 : w < 0
  · rw [if_neg (by unfold fits; omega)]; exact ev_pos h1 bad
  refine ev_neg h1 ?_
  by_cases h2 : w > 8
  · rw [if_neg (by unfold fits; omega)]; exact ev_pos h2 bad
  refine ev_neg h2 ?_
  by_cases h3 : a < 0
  · rw [if_neg (by unfold fits; omega)]; exact ev_pos h3 bad
  refine ev_neg h3 ?_
  by_cases h4 : a > (l.length : Int)
  · rw [if_neg (by unfold fits; omega)]; exact ev_pos h4 bad
  refine ev_neg h4 ?_
  rw [w64 (n := (l.length : Int) - a) (by omega) (by omega)]
  by_cases h5 : w > (l.length : Int) - a
  · rw [if_neg (by unfold fits; omega), decide_eq_true h5]; exact bad
  rw [if_pos (by unfold fits; omega), decide_eq_false h5]
  obtain ⟨an, rfl⟩ := Int.eq_ofNat_of_zero_le (show 0 ≤ a by omega)
  obtain ⟨wn, rfl⟩ := Int.eq_ofNat_of_zero_le (show 0 ≤ w by omega)
  have h := rget_l0 hb hl (a := an) (w := wn) (by omega) (by omega) wn 0 (by omega)
  refine Ev.step (f := fun k => crosswayref01_Get.l0 k l (an : Int) (wn : Int) 0 (an : Int)) (fun k => ?_) ?_
  · simp only [crosswayref01_Get.j0]; rw [if_neg (by decide)]
  · exact h
/-! The reference's Put. -/
theorem rput_l1 (n0 n : Int) (xs : List Int) (r : List Int) (hn0 : 0 ≤ n0) (hn1 : n0 < 18446744073709551616) (hlen : xs.length < 140737488355328) (w : Nat) (hw : w < 8) : ∀ (d i : Nat), w = i + d →
    Ev (fun k => crosswayref01_Put.l0 k n0 (xs ++ [n0 / 256 ^ w % 256]) ((w : Int) - 1)) r → Ev (fun k => crosswayref01_Put.l1 k n0 xs (w : Int) (n0 / 256 ^ i) (i : Int)) r := by
  intro d
  induction d with
  | zero =>
    intro i he h
    have e : i = w := by omega
    subst e
    refine Ev.step (f := fun k => _) (fun k => ?_) h
    have hq : 0 ≤ n0 / 256 ^ i := Int.ediv_nonneg hn0 (Int.le_of_lt (pow_pos i))
    simp only [crosswayref01_Put.l1]
    rw [if_neg (by omega), if_pos hlen, w64 (n := (i : Int) - 1) (by omega) (by omega), Int.tmod_eq_emod_of_nonneg hq]
    generalize n0 / 256 ^ i = q
    rw [show q % 256 % 256 = q % 256 by omega]
  | succ d ih =>
    intro i he h
    have hq : 0 ≤ n0 / 256 ^ i := Int.ediv_nonneg hn0 (Int.le_of_lt (pow_pos i))
    have hq2 : n0 / 256 ^ i ≤ n0 := Int.ediv_le_self _ hn0
    refine Ev.step (f := fun k => crosswayref01_Put.l1 k n0 xs (w : Int) (n0 / 256 ^ (i + 1)) ((i + 1 : Nat) : Int)) (fun k => ?_) (ih (i + 1) (by omega) h)
    simp only [crosswayref01_Put.l1]
    rw [if_pos (by omega), w64 (n := (i : Int) + 1) (by omega) (by omega), Int.tdiv_eq_ediv_of_nonneg hq, wu64 (n := n0 / 256 ^ i / 256) (by omega) (by omega), div_div]; rfl
theorem rput_l0 (n0 : Int) (hn0 : 0 ≤ n0) (hn1 : n0 < 18446744073709551616) : ∀ (w : Nat) (xs : List Int), w ≤ 8 → xs.length ≤ 140737488355300 + (8 - w) →
    Ev (fun k => crosswayref01_Put.l0 k n0 xs ((w : Int) - 1)) (xs ++ be n0 w) := by
  intro w
  induction w with
  | zero =>
    intro xs h hl
    refine Ev.step (f := fun _ => _) (fun k => ?_) (Ev.now _)
    simp only [crosswayref01_Put.l0]; rw [if_neg (by omega)]; simp [be]
  | succ w ih =>
    intro xs h hl
    refine Ev.step (f := fun k => crosswayref01_Put.l1 k n0 xs (w : Int) (n0 / 256 ^ 0) ((0 : Nat) : Int)) (fun k => ?_) (rput_l1 n0 n0 xs _ hn0 hn1 (by omega) w (by omega) w 0 (by omega) ?_)
    · simp only [crosswayref01_Put.l0]
      rw [if_pos (by omega), Int.pow_zero, Int.ediv_one, show ((w + 1 : Nat) : Int) - 1 = (w : Int) by omega]; rfl
    · have h2 := ih (xs ++ [n0 / 256 ^ w % 256]) (by omega) (by rw [List.length_append]; simp; omega)
      have e : xs ++ be n0 (w + 1) = xs ++ [n0 / 256 ^ w % 256] ++ be n0 w := by simp [be]
      rw [e]; exact h2
theorem wid_eq' (w : Int) : mn (mx w 0) 8 = (octet_Put.wid w : Int) := octet_Put.wid_eq w
theorem rput_ev {l : List Int} (hl : l.length ≤ 140737488355200) {w n : Int} (hn : 0 ≤ n ∧ n ≤ 18446744073709551615) : Ev (fun k => crosswayref01_Put.f k l w n) (l ++ be n (octet_Put.wid w)) := by
  unfold crosswayref01_Put.f
  refine ev_pos (by simp; omega) ?_
  rw [List.nil_append, octet_Put.wid_eq]
  exact rput_l0 n hn.1 (by omega) _ _ (octet_Put.wid_le w) (by omega)
/-! The law's low. -/
theorem low_l0 (n : Int) (w : Nat) (hw : w < 8) (hn : 0 ≤ n ∧ n ≤ 18446744073709551615) : ∀ d i : Nat, w = i + d → Ev (fun k => crosswaylaw01_low.l0 k n (w : Int) (256 ^ i) (i : Int)) (n % 256 ^ w) := by
  intro d
  induction d with
  | zero =>
    intro i he
    have e : i = w := by omega
    subst e
    have hp := pow_pos i
    refine Ev.step (f := fun _ => _) (fun k => ?_) (Ev.now _)
    simp only [crosswaylaw01_low.l0]; rw [if_neg (by omega), if_neg (by omega), Int.tmod_eq_emod_of_nonneg hn.1]
  | succ d ih =>
    intro i he
    have hp := pow_pos i
    have hp' : (256 : Int) ^ i ≤ 281474976710656 := by
      have h := p256' (i := i + 1) (by omega)
      rw [Int.pow_succ] at h; omega
    refine Ev.step (f := fun k => crosswaylaw01_low.l0 k n (w : Int) (256 ^ (i + 1)) ((i + 1 : Nat) : Int)) (fun k => ?_) (ih (i + 1) (by omega))
    simp only [crosswaylaw01_low.l0]
    rw [Int.pow_succ]
    generalize (256 : Int) ^ i = q at *
    rw [if_pos (by omega), wu64 (n := q * 256) (by omega) (by omega), w64 (n := (i : Int) + 1) (by omega) (by omega)]; rfl
theorem low_ev {n : Int} (hn : 0 ≤ n ∧ n ≤ 18446744073709551615) {w : Nat} (hw : w ≤ 8) : Ev (fun k => crosswaylaw01_low.f k n (w : Int)) (n % 256 ^ w) := by
  unfold crosswaylaw01_low.f
  by_cases h : (w : Int) ≥ 8
  · have e : w = 8 := by omega
    subst e
    refine ev_pos h (ev_eq fun _ => ?_)
    rw [show (256 : Int) ^ 8 = 18446744073709551616 by decide, Int.emod_eq_of_lt hn.1 (by omega)]
  · exact ev_neg h (low_l0 n w (by omega) hn w 0 (by omega))
end Go.Proofs.Ytbfchmfanbeocaa.Pure
