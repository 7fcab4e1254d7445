/-
  What the reference's Lay of layer 7 comes to. No program in sight but their Lean functions. Conditions: those of each theorem.
-/
import Derived.Test.YtfkdmdacicahcaaPBasex8
import Derived.Test.YtfkdmdacicahcaaPureSix
set_option linter.unusedVariables false
set_option linter.unusedSectionVars false
set_option linter.unusedSimpArgs false
namespace Go.Proofs.Ytfkdmdacicahcaa.Pure
open Go.RowKit Go.Proofs.Ytfkdmdacicahcaa.PBase Go.Proofs.YtfkdmdacicahcaaW.PrintWords Go.Proofs.YtfkdmdacicahcaaW.PrintLast Go.Proofs.YtfkdmdacicahcaaW.PrintMore Go.Proofs.Ytfkdmdacicahcaa.MTally Go.Proofs.Ytfkdmdacicahcaa.MBe
/-! The reference's Put. -/
theorem rput_l1 (n0 n : Int) (xs : List Int) (r : List Int) (hn0 : 0 ≤ n0) (hn1 : n0 < 18446744073709551616) (hlen : xs.length < 140737488355328) (w : Nat) (hw : w < 8) : ∀ (d i : Nat), w = i + d →
    Ev (fun k => crosswayref01_Put.l0 k n0 (xs ++ [n0 / 256 ^ w % 256]) ((w : Int) - 1)) r → Ev (fun k => crosswayref01_Put.l1 k n0 xs (w : Int) (n0 / 256 ^ i) (i : Int)) r := by
  intro d
  induction d with
  | zero =>
    intro i he h
    have e : i = w := by omega
    subst e
    refine Ev.step (f := fun k => _) (fun k => ?_) h
    have hq : 0 ≤ n0 / 256 ^ i := Int.ediv_nonneg hn0 (Int.le_of_lt (pow_pos i))
    simp only [crosswayref01_Put.l1]
    rw [if_neg (by omega), if_pos hlen, w64 (n := (i : Int) - 1) (by omega) (by omega), Int.tmod_eq_emod_of_nonneg hq]
    generalize n0 / 256 ^ i = q
    rw [show q % 256 % 256 = q % 256 by omega]
  | succ d ih =>
    intro i he h
    have hq : 0 ≤ n0 / 256 ^ i := Int.ediv_nonneg hn0 (Int.le_of_lt (pow_pos i))
    have hq2 : n0 / 256 ^ i ≤ n0 := Int.ediv_le_self _ hn0
    refine Ev.step (f := fun k => crosswayref01_Put.l1 k n0 xs (w : Int) (n0 / 256 ^ (i + 1)) ((i + 1 : Nat) : Int)) (fun k => ?_) (ih (i + 1) (by omega) h)
    simp only [crosswayref01_Put.l1]
    rw [if_pos (by omega), w64 (n := (i : Int) + 1) (by omega) (by omega), Int.tdiv_eq_ediv_of_nonneg hq, wu64 (n := n0 / 256 ^ i / 256) (by omega) (by omega), div_div]; rfl
theorem rput_l0 (n0 : Int) (hn0 : 0 ≤ n0) (hn1 : n0 < 18446744073709551616) : ∀ (w : Nat) (xs : List Int), w ≤ 8 → xs.length ≤ 140737488355300 + (8 - w) →
    Ev (fun k => crosswayref01_Put.l0 k n0 xs ((w : Int) - 1)) (xs ++ be n0 w) := by
  intro w
  induction w with
  | zero =>
    intro xs h hl
    refine Ev.step (f := fun _ => _) (fun k => ?_) (Ev.now _)
    simp only [crosswayref01_Put.l0]; rw [if_neg (by omega)]; simp [be]
  | succ w ih =>
    intro xs h hl
    refine Ev.step (f := fun k => crosswayref01_Put.l1 k n0 xs (w : Int) (n0 / 256 ^ 0) ((0 : Nat) : Int)) (fun k => ?_) (rput_l1 n0 n0 xs _ hn0 hn1 (by omega) w (by omega) w 0 (by omega) ?_)
    · simp only [crosswayref01_Put.l0]
      rw [if_pos (by omega), Int.pow_zero, Int.ediv_one, show ((w + 1 : Nat) : Int) - 1 = (w : Int) by omega]; rfl
    · have h2 := ih (xs ++ [n0 / 256 ^ w % 256]) (by omega) (by rw [List.length_append]; simp; omega)
      have e : xs ++ be n0 (w + 1) = xs ++ [n0 / 256 ^ w % 256] ++ be n0 w := by simp [be]
      rw [e]; exact h2
theorem wid_eq' (w : Int) : mn (mx w 0) 8 = (octet_Put.wid w : Int) := octet_Put.wid_eq w
theorem rput_ev {l : List Int} (hl : l.length ≤ 140737488355200) {w n : Int} (hn : 0 ≤ n ∧ n ≤ 18446744073709551615) : Ev (fun k => crosswayref01_Put.f k l w n) (l ++ be n (octet_Put.wid w)) := by
  unfold crosswayref01_Put.f
  refine ev_pos (by simp; omega) ?_
  rw [List.nil_append, octet_Put.wid_eq]
  exact rput_l0 n hn.1 (by omega) _ _ (octet_Put.wid_le w) (by omega)
theorem between_eq (x b : Int) : crosswayref07_between.f x b = some (decide (0 ≤ x ∧ x ≤ b)) := by
  unfold crosswayref07_between.f
  split
  · congr 1; apply decide_eq_decide.2; omega
  · congr 1; symm; apply decide_eq_false; omega
theorem nums_append (l : List Int) (s : ByteArray) (h : Bytes l) : strOfNums l ++ s = strOfNums (l ++ bytesOf s) := by
  apply MBytes.inj
  rw [MBytes.append, MBytes.ofNums h, MBytes.ofNums (Bytes.append h (MBytes.range s))]
theorem rlay_ev (cl fl nx hp : Int) (s1 : Bool) {fh flo : Int} (s2 : Bool) {th tlo : Int} (data : ByteArray) (hs : data.size ≤ 140737488351232) (u1 : 0 ≤ fh ∧ fh ≤ 18446744073709551615) (u2 : 0 ≤ flo ∧ flo ≤ 18446744073709551615) (u3 : 0 ≤ th ∧ th ≤ 18446744073709551615) (u4 : 0 ≤ tlo ∧ tlo ≤ 18446744073709551615) :
    Ev (fun k => crosswayref07_Lay.f k cl fl nx hp s1 fh flo s2 th tlo data) (layR cl fl nx hp s1 fh flo s2 th tlo data) := by
  have bad1 : Ev (fun k => crosswayref07_Lay.j1 k true cl fl nx hp s1 fh flo s2 th tlo data) (⟨#[]⟩, 60) :=
    Ev.step (f := fun _ => some (⟨#[]⟩, 60)) (fun k => by simp only [crosswayref07_Lay.j1]; rw [if_pos trivial]) (ev_eq fun _ => rfl)
  have bad0 : Ev (fun k => crosswayref07_Lay.j0 k false cl fl nx hp s1 fh flo s2 th tlo data) (⟨#[]⟩, 60) :=
    Ev.step (f := fun k => crosswayref07_Lay.j1 k true cl fl nx hp s1 fh flo s2 th tlo data) (fun k => by simp only [crosswayref07_Lay.j0]; rw [if_neg (by decide)]) bad1
  unfold crosswayref07_Lay.f
  by_cases hm : may cl fl nx hp s1 s2
  · have hm' := hm
    obtain ⟨h1, h2, h3, h4, rfl, rfl⟩ := hm
    unfold layR; rw [if_pos hm']
    refine ev_bind (between_eq _ _) (ev_pos (decide_eq_true h1) (ev_bind (between_eq _ _) (ev_pos (decide_eq_true h2) (ev_bind (between_eq _ _) (ev_pos (decide_eq_true h3) (ev_bind (between_eq _ _) ?_))))))
    rw [decide_eq_true h4]
    refine Ev.step (f := fun k => crosswayref07_Lay.j1 k false cl fl nx hp true fh flo true th tlo data) (fun k => by simp only [crosswayref07_Lay.j0]; rw [if_pos trivial, if_pos trivial]; rfl) ?_
    refine Ev.step (fun k => by simp only [crosswayref07_Lay.j1]; rw [if_neg (by decide)]) ?_
    by_cases hl : 65535 < (data.size : Int)
    · rw [if_pos hl]; exact ev_pos hl (ev_eq fun _ => rfl)
    rw [if_neg hl]
    refine ev_neg (by omega) ?_
    have ef : IntKind.u64.wrap (wrap64 ((wrap64 (1610612736 + (wrap64 (cl * 1048576)))) + fl)) = ip6_Lay.first cl fl := by
      rw [first_eq h1 h4, w64 (n := cl * 1048576) (by omega) (by omega), w64 (n := 1610612736 + cl * 1048576) (by omega) (by omega), w64 (by omega) (by omega), wu64 (by omega) (by omega)]
    rw [ef, wu64 (n := nx) (by omega) (by omega), wu64 (n := hp) (by omega) (by omega)]
    have rf : 0 ≤ ip6_Lay.first cl fl ∧ ip6_Lay.first cl fl ≤ 18446744073709551615 := by rw [first_eq h1 h4]; omega
    have e1 : ∀ n : Int, be n 1 = [n % 256] := fun n => by simp [be]
    have W : ∀ {w : Int} {m : Nat} {l : List Int} {n : Int}, octet_Put.wid w = m → l.length ≤ 1000 → (0 ≤ n ∧ n ≤ 18446744073709551615) → Ev (fun k => crosswayref01_Put.f k l w n) (l ++ be n m) := by
      intro w m l n hw hl hn
      have h := rput_ev (l := l) (w := w) (n := n) (by omega) hn
      rw [hw] at h
      exact h
    refine Ev.bind (W (m := 4) (by decide) (by simp) rf) (Ev.bind (W (m := 2) (by decide) (by simp [be_length]) (by omega)) (Ev.bind (W (m := 1) (by decide) (by simp [be_length]) (by omega)) (Ev.bind (W (m := 1) (by decide) (by simp [be_length]) (by omega)) (Ev.bind (W (m := 8) (by decide) (by simp [be_length]) u1) (Ev.bind (W (m := 8) (by decide) (by simp [be_length]) u2) (Ev.bind (W (m := 8) (by decide) (by simp [be_length]) u3) (Ev.bind (W (m := 8) (by decide) (by simp [be_length]) u4) ?_)))))))
    refine ev_pos (by rw [MBytes.size_ofNums]; simp only [List.length_append, be_length, List.length_nil]; omega) (ev_eq fun _ => ?_)
    rw [nums_append]
    · congr 3
      unfold ip6_Lay.of ip6_Lay.head ip6_Lay.ends
      rw [e1, e1, show nx % 256 = nx by omega, show hp % 256 = hp by omega]
      simp
    · have b := fun n w => (be_bytes n w : Bytes (be n w))
      exact Bytes.append (Bytes.append (Bytes.append (Bytes.append (Bytes.append (Bytes.append (Bytes.append (Bytes.append Bytes.nil (b _ _)) (b _ _)) (b _ _)) (b _ _)) (b _ _)) (b _ _)) (b _ _)) (b _ _)
  · unfold layR; rw [if_neg hm]
    refine ev_bind (between_eq _ _) ?_
    by_cases h1 : 0 ≤ cl ∧ cl ≤ 255
    case neg => exact ev_neg (by simpa using h1) bad0
    refine ev_pos (decide_eq_true h1) (ev_bind (between_eq _ _) ?_)
    by_cases h2 : 0 ≤ nx ∧ nx ≤ 255
    case neg => exact ev_neg (by simpa using h2) bad0
    refine ev_pos (decide_eq_true h2) (ev_bind (between_eq _ _) ?_)
    by_cases h3 : 0 ≤ hp ∧ hp ≤ 255
    case neg => exact ev_neg (by simpa using h3) bad0
    refine ev_pos (decide_eq_true h3) (ev_bind (between_eq _ _) ?_)
    by_cases h4 : 0 ≤ fl ∧ fl ≤ 1048575
    case neg => rw [decide_eq_false h4]; exact bad0
    rw [decide_eq_true h4]
    cases s1 with
    | false => exact Ev.step (f := fun k => crosswayref07_Lay.j1 k true cl fl nx hp false fh flo s2 th tlo data) (fun k => by simp only [crosswayref07_Lay.j0]; rw [if_pos trivial, if_neg (by decide)]) bad1
    | true =>
      cases s2 with
      | false => exact Ev.step (f := fun k => crosswayref07_Lay.j1 k true cl fl nx hp true fh flo false th tlo data) (fun k => by simp only [crosswayref07_Lay.j0]; rw [if_pos trivial, if_pos trivial]; rfl) bad1
      | true => exact absurd ⟨h1, h2, h3, h4, rfl, rfl⟩ hm
end Go.Proofs.Ytfkdmdacicahcaa.Pure
