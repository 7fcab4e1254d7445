/-
  What the references' functions of layers 1 and 2 come to. No program in sight but their Lean functions.
-/
import Derived.Test.YtmkjeidejgbicaaPBasex7
import Derived.Test.YtmkjeidejgbicaaPureTally08
set_option linter.unusedVariables false
set_option linter.unusedSimpArgs false
namespace Go.Proofs.Ytmkjeidejgbicaa.PureT
open Go.RowKit Go.Proofs.Ytmkjeidejgbicaa.PBase Go.Proofs.YtmkjeidejgbicaaW.PrintWords Go.Proofs.YtmkjeidejgbicaaW.PrintLast Go.Proofs.YtmkjeidejgbicaaW.PrintMore Go.Proofs.Ytmkjeidejgbicaa.MTally Go.Proofs.Ytmkjeidejgbicaa.MBe
theorem radd_eq {a b : Int} (ha : R a) (hb : R b) : crosswayref02_Add.f a b = some (oadd a b) := by
  unfold R at ha hb
  unfold crosswayref02_Add.f oadd
  rw [w64 (n := a) (by omega) (by omega), w64 (n := b) (by omega) (by omega), w64 (n := a + b) (by omega) (by omega)]
  by_cases h : a + b > 65535
  · rw [if_pos h, if_pos h, w64 (by omega) (by omega), w16 (by omega) (by omega)]
  · rw [if_neg h, if_neg h, w16 (by omega) (by omega)]
/-! What the reference's Put lays. -/
theorem put_l1 (n : Int) (hn : 0 ≤ n ∧ n ≤ 18446744073709551615) (acc : List Int) (i : Nat) (r : List Int) (hi : i < 8) (hl : acc.length < 140737488355328)
    (h : Ev (fun k => crosswayref01_Put.l0 k n (acc ++ [n / 256 ^ i % 256]) ((i : Int) - 1)) r) : ∀ d j : Nat, i = j + d → Ev (fun k => crosswayref01_Put.l1 k n acc (i : Int) (n / 256 ^ j) (j : Int)) r := by
  intro d
  induction d with
  | zero =>
    intro j e
    obtain rfl : i = j := by omega
    refine Ev.step (f := fun k => crosswayref01_Put.l0 k n (acc ++ [n / 256 ^ i % 256]) ((i : Int) - 1)) (fun k => ?_) h
    simp only [crosswayref01_Put.l1]
    have h0 : 0 ≤ n / 256 ^ i := Int.ediv_nonneg hn.1 (Int.le_of_lt (pow_pos i))
    rw [if_neg (by omega), if_pos hl, Int.tmod_eq_emod_of_nonneg h0, w64 (by omega) (by omega), Int.emod_emod_of_dvd _ (Int.dvd_refl _)]
  | succ d ih =>
    intro j e
    refine Ev.step (f := fun k => crosswayref01_Put.l1 k n acc (i : Int) (n / 256 ^ (j + 1)) ((j + 1 : Nat) : Int)) (fun k => ?_) (ih (j + 1) (by omega))
    simp only [crosswayref01_Put.l1]
    have h0 : 0 ≤ n / 256 ^ j := Int.ediv_nonneg hn.1 (Int.le_of_lt (pow_pos j))
    have h1 : n / 256 ^ j ≤ n := Int.ediv_le_self _ hn.1
    have h2 : IntKind.u64.wrap (Int.tdiv (n / 256 ^ j) 256) = n / 256 ^ (j + 1) := by
      rw [Int.tdiv_eq_ediv_of_nonneg h0, ← div_div]
      simp only [IntKind.wrap, IntKind.signed, IntKind.bits, Bool.false_and, Bool.false_eq_true, if_false]
      omega
    have h3 : wrap64 ((j : Int) + 1) = ((j + 1 : Nat) : Int) := by rw [w64 (by omega) (by omega)]; omega
    rw [if_pos (by omega), h2, h3]
theorem put_l0 (n : Int) (hn : 0 ≤ n ∧ n ≤ 18446744073709551615) : ∀ (w : Nat) (acc : List Int), w ≤ 8 → acc.length + w < 140737488355328 →
    Ev (fun k => crosswayref01_Put.l0 k n acc ((w : Int) - 1)) (acc ++ be n w) := by
  intro w
  induction w with
  | zero =>
    intro acc _ _
    refine Ev.step (f := fun _ => some acc) (fun k => ?_) (by simp only [be, List.append_nil]; exact Ev.now _)
    simp only [crosswayref01_Put.l0]; rw [if_neg (by omega)]
  | succ w ih =>
    intro acc hw hl
    refine Ev.step (f := fun k => crosswayref01_Put.l1 k n acc (w : Int) (n / 256 ^ 0) ((0 : Nat) : Int)) (fun k => ?_) ?_
    · simp only [crosswayref01_Put.l0]
      rw [if_pos (by omega), show ((w + 1 : Nat) : Int) - 1 = (w : Int) by omega]; simp
    · refine put_l1 n hn acc w _ (by omega) (by omega) ?_ w 0 (by omega)
      have h := ih (acc ++ [n / 256 ^ w % 256]) (by omega) (by simp only [List.length_append, List.length_cons, List.length_nil]; omega)
      rw [List.append_assoc] at h
      exact h
/-- The width as it is taken: from 0 to 8. -/
def wid (w : Int) : Nat := (mn (mx w 0) 8).toNat
theorem wid_eq (w : Int) : mn (mx w 0) 8 = (wid w : Int) := by
  unfold wid mn mx; split <;> split <;> omega
theorem wid_le (w : Int) : wid w ≤ 8 := by
  unfold wid mn mx; split <;> split <;> omega
theorem wid_of {w : Nat} (h : w ≤ 8) : wid (w : Int) = w := by
  unfold wid mn mx; split <;> split <;> omega
theorem rput_ev (l : List Int) (w n : Int) (hn : 0 ≤ n ∧ n ≤ 18446744073709551615) (hl : l.length ≤ 140737488351232) :
    Ev (fun k => crosswayref01_Put.f k l w n) (l ++ be n (wid w)) := by
  unfold crosswayref01_Put.f
  have hw := wid_le w
  refine ev_pos (by simp only [List.length_nil]; omega) ?_
  rw [wid_eq, List.nil_append]
  exact put_l0 n hn (wid w) l hw (by omega)
/-! What the reference's Words, Sum and Check come to. -/
theorem words_l0 (b : List Int) (hb : Bytes b) (hl : b.length ≤ 140737488351232) : ∀ (d i : Nat) (acc : List Int), b.length ≤ i + d → i % 2 = 0 → i ≤ b.length + 1 → acc.length = i / 2 → 
    Ev (fun k => crosswayref02_Words.l0 k b acc (i : Int)) (acc ++ words (b.drop i)) := by
  intro d
  induction d using Nat.strongRecOn with
  | _ d ih =>
    intro i acc h hi hb2 ha
    by_cases hlt : i < b.length
    · have hc := byte_at hb hlt
      by_cases h2 : i + 1 < b.length
      · have hc2 := byte_at hb h2
        have ed : b.drop i = b[i] :: b[i + 1] :: b.drop (i + 2) := by
          rw [List.drop_eq_getElem_cons hlt, List.drop_eq_getElem_cons h2]
        rw [ed]
        refine Ev.step (f := fun k => crosswayref02_Words.l0 k b (acc ++ [b[i] * 256 + b[i + 1]]) ((i + 2 : Nat) : Int)) (fun k => ?_) ?_
        · simp only [crosswayref02_Words.l0]
          have e1 : wrap64 ((i : Int) + 1) = ((i + 1 : Nat) : Int) := by rw [w64 (by omega) (by omega)]; omega
          have e2 : wrap64 ((i : Int) + 2) = ((i + 2 : Nat) : Int) := by rw [w64 (by omega) (by omega)]; omega
          rw [if_pos (by omega), if_pos (by omega), e1, e2, if_pos (by omega), if_pos (by omega), if_pos (by omega), rd_at hlt, rd_at h2, w16 (n := b[i]) (by omega) (by omega), w16 (n := b[i + 1]) (by omega) (by omega), w16 (n := b[i] * 256) (by omega) (by omega), w16 (by omega) (by omega)]
        · have := ih (d - 2) (by omega) (i + 2) (acc ++ [b[i] * 256 + b[i + 1]]) (by omega) (by omega) (by omega) (by simp; omega)
          simpa [words] using this
      · have ed : b.drop i = [b[i]] := by
          rw [List.drop_eq_getElem_cons hlt, List.drop_eq_nil_of_le (by omega)]
        rw [ed]
        refine Ev.step (f := fun k => crosswayref02_Words.l0 k b (acc ++ [b[i] * 256]) ((i + 2 : Nat) : Int)) (fun k => ?_) ?_
        · simp only [crosswayref02_Words.l0]
          have e1 : wrap64 ((i : Int) + 1) = ((i + 1 : Nat) : Int) := by rw [w64 (by omega) (by omega)]; omega
          have e2 : wrap64 ((i : Int) + 2) = ((i + 2 : Nat) : Int) := by rw [w64 (by omega) (by omega)]; omega
          rw [if_pos (by omega), if_pos (by omega), e1, e2, if_neg (by omega), if_pos (by omega), rd_at hlt, w16 (n := b[i]) (by omega) (by omega), w16 (by omega) (by omega)]
        · have := ih (d - 1) (by omega) (i + 2) (acc ++ [b[i] * 256]) (by omega) (by omega) (by omega) (by simp; omega)
          rw [List.drop_eq_nil_of_le (by omega)] at this
          simpa [words] using this
    · rw [List.drop_eq_nil_of_le (by omega)]
      refine Ev.step (f := fun _ => some acc) (fun k => ?_) (by simp only [words, List.append_nil]; exact Ev.now _)
      simp only [crosswayref02_Words.l0]; rw [if_neg (by omega)]
theorem words_ev (b : List Int) (hb : Bytes b) (hl : b.length ≤ 140737488351232) : Ev (fun k => crosswayref02_Words.f k b) (words b) := by
  have h := words_l0 b hb hl b.length 0 [] (by omega) (by omega) (by omega) rfl
  rw [List.nil_append, List.drop_zero] at h
  exact h
theorem rsum_l0 (l : List Int) (hb : ∀ x ∈ l, R x) (hl : l.length ≤ 140737488351232) : ∀ (d i : Nat) (n : Int), l.length = i + d → R n →
    Ev (fun k => crosswayref02_Sum.l0 k l n (i : Int)) ((l.drop i).foldl oadd n) := by
  intro d
  induction d with
  | zero =>
    intro i n h hn
    rw [List.drop_eq_nil_of_le (by omega)]
    refine Ev.step (f := fun _ => some n) (fun k => ?_) (Ev.now _)
    simp only [crosswayref02_Sum.l0]; rw [if_neg (by omega)]
  | succ d ih =>
    intro i n h hn
    have hlt : i < l.length := by omega
    have hc := hb _ (List.getElem_mem hlt)
    rw [List.drop_eq_getElem_cons hlt, List.foldl_cons]
    refine Ev.step (f := fun k => crosswayref02_Sum.l0 k l (oadd n l[i]) ((i + 1 : Nat) : Int)) (fun k => ?_) (ih (i + 1) _ (by omega) (oadd_R hn hc))
    simp only [crosswayref02_Sum.l0]
    have e1 : wrap64 ((i : Int) + 1) = ((i + 1 : Nat) : Int) := by rw [w64 (by omega) (by omega)]; omega
    rw [if_pos (by omega), if_pos (by omega), rd_at hlt, radd_eq hn hc, e1]; rfl
theorem rsum_ev (b : List Int) (hb : Bytes b) (hl : b.length ≤ 140737488351232) : Ev (fun k => crosswayref02_Sum.f k b) (S b) := by
  unfold crosswayref02_Sum.f
  refine Ev.bind (words_ev b hb hl) ?_
  have h := rsum_l0 (words b) (words_R hb) (by rw [words_length]; omega) (words b).length 0 0 (by omega) R_zero
  rw [List.drop_zero, fold_words_S hb] at h
  exact h
theorem be1_wrap (n : Int) : be (IntKind.u64.wrap n) 1 = [n % 256] := by
  simp only [be, Int.pow_zero, Int.ediv_one]; rw [wu64]; congr 1; omega
theorem rpseudo_ev (f_six : Bool) (f_hi f_lo : Int) (t_six : Bool) (t_hi t_lo len proto : Int) (h1 : U f_hi) (h2 : U f_lo) (h3 : U t_hi) (h4 : U t_lo) :
    Ev (fun k => crosswayref02_Pseudo.f k f_six f_hi f_lo t_six t_hi t_lo len proto) (S (ends f_six f_hi f_lo t_hi t_lo len proto)) := by
  unfold crosswayref02_Pseudo.f
  have w8 : wid 8 = 8 := rfl
  have w4 : wid 4 = 4 := rfl
  have w3 : wid 3 = 3 := rfl
  have w2 : wid 2 = 2 := rfl
  have w1 : wid 1 = 1 := rfl
  have z0 : U 0 := by unfold U; omega
  cases f_six with
  | true =>
    refine ev_pos rfl ?_
    refine Ev.bind (rput_ev _ 8 f_hi h1 (by simp)) ?_
    refine Ev.bind (rput_ev _ 8 f_lo h2 (by simp only [List.length_append, List.length_nil, be_length, w8]; omega)) ?_
    refine Ev.bind (rput_ev _ 8 t_hi h3 (by simp only [List.length_append, List.length_nil, be_length, w8]; omega)) ?_
    refine Ev.bind (rput_ev _ 8 t_lo h4 (by simp only [List.length_append, List.length_nil, be_length, w8]; omega)) ?_
    refine Ev.bind (rput_ev _ 4 _ (U_wrap len) (by simp only [List.length_append, List.length_nil, be_length, w8]; omega)) ?_
    refine Ev.bind (rput_ev _ 3 0 z0 (by simp only [List.length_append, List.length_nil, be_length, w8, w4]; omega)) ?_
    refine Ev.bind (rput_ev _ 1 _ (U_wrap proto) (by simp only [List.length_append, List.length_nil, be_length, w8, w4, w3]; omega)) ?_
    refine Ev.bind (a := S (ends true f_hi f_lo t_hi t_lo len proto)) ?_ (Ev.now _)
    rw [w8, w4, w3, w1, be1_wrap, show be 0 3 = [0, 0, 0] from by decide]
    have e : [] ++ be f_hi 8 ++ be f_lo 8 ++ be t_hi 8 ++ be t_lo 8 ++ be (IntKind.u64.wrap len) 4 ++ [0, 0, 0] ++ [proto % 256] = ends true f_hi f_lo t_hi t_lo len proto := by simp [ends]
    rw [e]
    exact rsum_ev _ (ends_bytes _ _ _ _ _ _ _) (by rw [← e]; simp [be_length])
  | false =>
    refine ev_neg (by decide) ?_
    refine Ev.bind (rput_ev _ 4 f_lo h2 (by simp)) ?_
    refine Ev.bind (rput_ev _ 4 t_lo h4 (by simp only [List.length_append, List.length_nil, be_length, w4]; omega)) ?_
    refine Ev.bind (rput_ev _ 1 0 z0 (by simp only [List.length_append, List.length_nil, be_length, w4]; omega)) ?_
    refine Ev.bind (rput_ev _ 1 _ (U_wrap proto) (by simp only [List.length_append, List.length_nil, be_length, w4, w1]; omega)) ?_
    refine Ev.bind (rput_ev _ 2 _ (U_wrap len) (by simp only [List.length_append, List.length_nil, be_length, w4, w1]; omega)) ?_
    refine Ev.bind (a := S (ends false f_hi f_lo t_hi t_lo len proto)) ?_ (Ev.now _)
    rw [w4, w2, w1, be1_wrap, show be 0 1 = [0] from by decide]
    have e : [] ++ be f_lo 4 ++ be t_lo 4 ++ [0] ++ [proto % 256] ++ be (IntKind.u64.wrap len) 2 = ends false f_hi f_lo t_hi t_lo len proto := by simp [ends]
    rw [e]
    exact rsum_ev _ (ends_bytes _ _ _ _ _ _ _) (by rw [← e]; simp [be_length])
end Go.Proofs.Ytmkjeidejgbicaa.PureT
