/-
  The pure law TallySums: the sum and the check of any parts are the document's, over all of them laid end to end; for parts that hold together at most 2^46 bytes.
-/
import Derived.Test.YtgloieofdnpggaaPTallySumsx4
import Derived.Test.YtgloieofdnpggaaMTally
set_option linter.unusedVariables false
set_option linter.unusedSimpArgs false
namespace Go.Proofs.Ytgloieofdnpggaa.Pure
open Go.RowKit Go.Proofs.Ytgloieofdnpggaa.PTallySums Go.Proofs.YtgloieofdnpggaaW.PrintWords Go.Proofs.YtgloieofdnpggaaW.PrintLast Go.Proofs.Ytgloieofdnpggaa.MTally
/-! What the printed functions of tally and of the reference come to. -/
theorem w64 {n : Int} (h0 : -9223372036854775808 ≤ n) (h1 : n ≤ 9223372036854775807) : wrap64 n = n := by unfold wrap64; omega
theorem w16 {n : Int} (h0 : 0 ≤ n) (h1 : n ≤ 65535) : IntKind.u16.wrap n = n := by
  simp only [IntKind.wrap, IntKind.signed, IntKind.bits, Bool.false_and, Bool.false_eq_true, if_false]; omega
theorem w16' (n : Int) : IntKind.u16.wrap n = n % 65536 := by
  simp only [IntKind.wrap, IntKind.signed, IntKind.bits, Bool.false_and, Bool.false_eq_true, if_false]; rfl
theorem ev_pos {α : Type} {c : Prop} [Decidable c] {f g : Nat → Option α} {r : α} (hc : c) (h : Ev f r) : Ev (fun k => if c then f k else g k) r := by
  simp only [if_pos hc]; exact h
theorem ev_neg {α : Type} {c : Prop} [Decidable c] {f g : Nat → Option α} {r : α} (hc : ¬ c) (h : Ev g r) : Ev (fun k => if c then f k else g k) r := by
  simp only [if_neg hc]; exact h
theorem ev_eq {α : Type} {f : Nat → Option α} {r : α} (h : ∀ k, f k = some r) : Ev f r := ⟨0, fun k _ => h k⟩
theorem ev_bind {α β : Type} {o : Option α} {f : Nat → α → Option β} {a : α} {r : β} (h : o = some a) (k : Ev (fun n => f n a) r) : Ev (fun n => o.bind (f n)) r := by
  subst h; exact k
theorem add_eq {a b : Int} (ha : R a) (hb : R b) : tally_Add.f a b = some (oadd a b) := by
  unfold R at ha hb
  unfold tally_Add.f oadd
  rw [w16']
  congr 1
  split <;> omega
theorem upd_eq {a b c : Int} (ha : R a) (hb : R b) (hc : R c) : tally_Update.f a b c = some (65535 - oadd (oadd (65535 - a) (65535 - b)) c) := by
  have h := oadd_R (oadd_R (R_compl ha) (R_compl hb)) hc
  unfold tally_Update.f
  unfold R at ha hb hc h
  rw [w16 (n := 65535 - a) (by omega) (by omega), w16 (n := 65535 - b) (by omega) (by omega), add_eq (R_compl ha) (R_compl hb)]
  simp only [Option.bind_some]
  rw [add_eq (oadd_R (R_compl ha) (R_compl hb)) hc]
  simp only [Option.bind_some]
  rw [w16 (by omega) (by omega)]
theorem rd_at {xs : List Int} {i : Nat} (h : i < xs.length) : rd xs (i : Int) = xs[i] := by
  simp [rd, List.getElem?_eq_getElem h]
theorem byte_at {xs : List Int} (hb : Bytes xs) {i : Nat} (h : i < xs.length) : 0 ≤ xs[i] ∧ xs[i] ≤ 255 := hb _ (List.getElem_mem h)
/-- A toggled flag. -/
def tog (hi : Bool) (d : Nat) : Bool := if d % 2 = 0 then hi else !hi
theorem tog_succ (hi : Bool) (d : Nat) : tog (!hi) d = tog hi (d + 1) := by
  unfold tog
  by_cases h : d % 2 = 0
  · rw [if_pos h, if_neg (by omega)]
  · rw [if_neg h, if_pos (by omega)]; cases hi <;> rfl
theorem sum_l1 (x0 : List (List Int)) (len j r : Int) (row : List Int) (hb : Bytes row) (hl : row.length ≤ 140737488351232) : ∀ (d i : Nat) (n : Int) (hi : Bool), row.length = i + d → R n →
    Ev (fun k => tally_Sum.l0 k x0 (sumB n hi (row.drop i)) (tog hi d) len (wrap64 (j + 1))) r →
    Ev (fun k => tally_Sum.l1 k x0 n hi len j row (row.length : Int) (i : Int)) r := by
  intro d
  induction d with
  | zero =>
    intro i n hi he hn h
    refine Ev.step (f := fun k => tally_Sum.l0 k x0 n hi len (wrap64 (j + 1))) (fun k => ?_) ?_
    · simp only [tally_Sum.l1]; rw [if_neg (by omega)]
    · have e : row.drop i = [] := List.drop_eq_nil_of_le (by omega)
      rw [e] at h; exact h
  | succ d ih =>
    intro i n hi he hn h
    have hlt : i < row.length := by omega
    have hc := byte_at hb hlt
    have ed : row.drop i = row[i] :: row.drop (i + 1) := List.drop_eq_getElem_cons hlt
    rw [ed] at h
    have hw : wrap64 ((i : Int) + 1) = ((i + 1 : Nat) : Int) := by rw [w64 (by omega) (by omega)]; omega
    cases hi with
    | true =>
      refine Ev.step (f := fun k => tally_Sum.l1 k x0 (oadd n (row[i] * 256)) false len j row (row.length : Int) ((i + 1 : Nat) : Int)) (fun k => ?_) ?_
      · simp only [tally_Sum.l1]
        rw [if_pos (by omega), if_pos (by omega), if_pos (by omega), if_pos trivial, rd_at hlt, w16 (n := row[i]) (by omega) (by omega), w16 (by omega) (by omega), add_eq hn (by unfold R; omega)]
        simp only [Option.bind_some, Bool.not_true]; rw [hw]
      · exact ih (i + 1) _ _ (by omega) (oadd_R hn (by unfold R; omega)) (by rw [show tog false d = tog true (d + 1) from tog_succ true d]; exact h)
    | false =>
      refine Ev.step (f := fun k => tally_Sum.l1 k x0 (oadd n row[i]) true len j row (row.length : Int) ((i + 1 : Nat) : Int)) (fun k => ?_) ?_
      · simp only [tally_Sum.l1]
        rw [if_pos (by omega), if_pos (by omega), if_pos (by omega), if_neg (by decide), rd_at hlt, w16 (n := row[i]) (by omega) (by omega), add_eq hn (by unfold R; omega)]
        simp only [Option.bind_some, Bool.not_false]; rw [hw]
      · exact ih (i + 1) _ _ (by omega) (oadd_R hn (by unfold R; omega)) (by rw [show tog true d = tog false (d + 1) from tog_succ false d]; exact h)
theorem sum_l0 (x0 : List (List Int)) (hb : ∀ p ∈ x0, Bytes p ∧ p.length ≤ 140737488351232) (hl : x0.length ≤ 140737488351232) : ∀ (d j : Nat) (n : Int) (hi : Bool), x0.length = j + d → R n →
    Ev (fun k => tally_Sum.l0 k x0 n hi (x0.length : Int) (j : Int)) (sumB n hi (x0.drop j).flatten) := by
  intro d
  induction d with
  | zero =>
    intro j n hi he hn
    have e : x0.drop j = [] := List.drop_eq_nil_of_le (by omega)
    rw [e]
    refine Ev.step (f := fun k => some n) (fun k => ?_) (Ev.now _)
    simp only [tally_Sum.l0]; rw [if_neg (by omega)]
  | succ d ih =>
    intro j n hi he hn
    have hlt : j < x0.length := by omega
    have ed : x0.drop j = x0[j] :: x0.drop (j + 1) := List.drop_eq_getElem_cons hlt
    have hr : rd_L1 x0 (j : Int) = x0[j] := by simp [rd_L1, List.getElem?_eq_getElem hlt]
    have hm := hb _ (List.getElem_mem hlt)
    have hw : wrap64 ((j : Int) + 1) = ((j + 1 : Nat) : Int) := by rw [w64 (by omega) (by omega)]; omega
    rw [ed, List.flatten_cons, sumB_append]
    refine Ev.step (f := fun k => tally_Sum.l1 k x0 n hi (x0.length : Int) (j : Int) x0[j] (x0[j].length : Int) ((0 : Nat) : Int)) (fun k => ?_) ?_
    · simp only [tally_Sum.l0]
      rw [if_pos (by omega), if_pos (by omega), if_pos (by omega), hr]; rfl
    · refine sum_l1 x0 _ _ _ _ hm.1 hm.2 x0[j].length 0 n hi (by omega) hn ?_
      rw [hw, List.drop_zero]
      exact ih (j + 1) _ _ (by omega) (sumB_R hn hm.1)
theorem sum_ev (x0 : List (List Int)) (hb : ∀ p ∈ x0, Bytes p ∧ p.length ≤ 140737488351232) (hl : x0.length ≤ 140737488351232) : Ev (fun k => tally_Sum.f k x0) (S x0.flatten) := by
  have h := sum_l0 x0 hb hl x0.length 0 0 true (by omega) R_zero
  have hf : Bytes x0.flatten := fun y hy => by
    obtain ⟨p, hp, hy⟩ := List.mem_flatten.1 hy
    exact (hb p hp).1 y hy
  rw [List.drop_zero, sumB_S hf] at h
  exact h
theorem flat_bytes {x0 : List (List Int)} (hb : ∀ p ∈ x0, Bytes p ∧ p.length ≤ 140737488351232) : Bytes x0.flatten := fun y hy => by
  obtain ⟨p, hp, hy⟩ := List.mem_flatten.1 hy
  exact (hb p hp).1 y hy
theorem check_ev (x0 : List (List Int)) (hb : ∀ p ∈ x0, Bytes p ∧ p.length ≤ 140737488351232) (hl : x0.length ≤ 140737488351232) : Ev (fun k => tally_Check.f k x0) (65535 - S x0.flatten) := by
  unfold tally_Check.f
  refine Ev.bind (sum_ev x0 hb hl) (ev_eq fun k => ?_)
  have h := S_R (flat_bytes hb)
  unfold R at h
  rw [w16 (by omega) (by omega)]
theorem one_part {p : List Int} (hp : Bytes p) (hl : p.length ≤ 140737488351232) : ∀ q ∈ [p], Bytes q ∧ q.length ≤ 140737488351232 := by
  intro q hq; simp only [List.mem_singleton] at hq; subst hq; exact ⟨hp, hl⟩
theorem sum1_ev {p : List Int} (hp : Bytes p) (hl : p.length ≤ 140737488351232) : Ev (fun k => tally_Sum.f k [p]) (S p) := by
  have h := sum_ev [p] (one_part hp hl) (by simp)
  simpa using h
theorem check1_ev {p : List Int} (hp : Bytes p) (hl : p.length ≤ 140737488351232) : Ev (fun k => tally_Check.f k [p]) (65535 - S p) := by
  have h := check_ev [p] (one_part hp hl) (by simp)
  simpa using h
theorem radd_eq {a b : Int} (ha : R a) (hb : R b) : crosswayref02_Add.f a b = some (oadd a b) := by
  unfold R at ha hb
  unfold crosswayref02_Add.f oadd
  rw [w64 (n := a) (by omega) (by omega), w64 (n := b) (by omega) (by omega), w64 (n := a + b) (by omega) (by omega)]
  by_cases h : a + b > 65535
  · rw [if_pos h, if_pos h, w64 (by omega) (by omega), w16 (by omega) (by omega)]
  · rw [if_neg h, if_neg h, w16 (by omega) (by omega)]
theorem awake_ev : Ev (fun k => crosswaylaw02_awake.f k) true := Ev.of (fun k => crosswaylaw02_awake.mono k) (k := 80) (by decide +kernel)
theorem R_of_wf {a : Int} (h : (Lit.int .u16 a).wf = true) : R a := by
  have := h
  simp [Lit.wf, IntKind.min, IntKind.max, IntKind.signed, IntKind.bits] at this
  exact this
theorem byte_of_wf {a : Int} (h : (Lit.int .u8 a).wf = true) : 0 ≤ a ∧ a ≤ 255 := by
  have := h
  simp [Lit.wf, IntKind.min, IntKind.max, IntKind.signed, IntKind.bits] at this
  exact this
theorem i64_of_wf {a : Int} (h : (Lit.int .i64 a).wf = true) : -9223372036854775808 ≤ a ∧ a ≤ 9223372036854775807 := by
  have := h
  simp [Lit.wf, IntKind.min, IntKind.max, IntKind.signed, IntKind.bits] at this
  exact this
theorem bytes_of_wf {l : List Int} (h : ∀ x ∈ l, (Lit.int .u8 x).wf = true) : Bytes l := fun x hx => byte_of_wf (h x hx)
/-! What the reference's Words, Sum and Check come to. -/
theorem words_l0 (b : List Int) (hb : Bytes b) (hl : b.length ≤ 140737488351232) : ∀ (d i : Nat) (acc : List Int), b.length ≤ i + d → i % 2 = 0 → i ≤ b.length + 1 → acc.length = i / 2 → 
    Ev (fun k => crosswayref02_Words.l0 k b acc (i : Int)) (acc ++ words (b.drop i)) := by
  intro d
  induction d using Nat.strongRecOn with
  | _ d ih =>
    intro i acc h hi hb2 ha
    by_cases hlt : i < b.length
    · have hc := byte_at hb hlt
      by_cases h2 : i + 1 < b.length
      · have hc2 := byte_at hb h2
        have ed : b.drop i = b[i] :: b[i + 1] :: b.drop (i + 2) := by
          rw [List.drop_eq_getElem_cons hlt, List.drop_eq_getElem_cons h2]
        rw [ed]
        refine Ev.step (f := fun k => crosswayref02_Words.l0 k b (acc ++ [b[i] * 256 + b[i + 1]]) ((i + 2 : Nat) : Int)) (fun k => ?_) ?_
        · simp only [crosswayref02_Words.l0]
          have e1 : wrap64 ((i : Int) + 1) = ((i + 1 : Nat) : Int) := by rw [w64 (by omega) (by omega)]; omega
          have e2 : wrap64 ((i : Int) + 2) = ((i + 2 : Nat) : Int) := by rw [w64 (by omega) (by omega)]; omega
          rw [if_pos (by omega), if_pos (by omega), e1, e2, if_pos (by omega), if_pos (by omega), if_pos (by omega), rd_at hlt, rd_at h2, w16 (n := b[i]) (by omega) (by omega), w16 (n := b[i + 1]) (by omega) (by omega), w16 (n := b[i] * 256) (by omega) (by omega), w16 (by omega) (by omega)]
        · have := ih (d - 2) (by omega) (i + 2) (acc ++ [b[i] * 256 + b[i + 1]]) (by omega) (by omega) (by omega) (by simp; omega)
          simpa [words] using this
      · have ed : b.drop i = [b[i]] := by
          rw [List.drop_eq_getElem_cons hlt, List.drop_eq_nil_of_le (by omega)]
        rw [ed]
        refine Ev.step (f := fun k => crosswayref02_Words.l0 k b (acc ++ [b[i] * 256]) ((i + 2 : Nat) : Int)) (fun k => ?_) ?_
        · simp only [crosswayref02_Words.l0]
          have e1 : wrap64 ((i : Int) + 1) = ((i + 1 : Nat) : Int) := by rw [w64 (by omega) (by omega)]; omega
          have e2 : wrap64 ((i : Int) + 2) = ((i + 2 : Nat) : Int) := by rw [w64 (by omega) (by omega)]; omega
          rw [if_pos (by omega), if_pos (by omega), e1, e2, if_neg (by omega), if_pos (by omega), rd_at hlt, w16 (n := b[i]) (by omega) (by omega), w16 (by omega) (by omega)]
        · have := ih (d - 1) (by omega) (i + 2) (acc ++ [b[i] * 256]) (by omega) (by omega) (by omega) (by simp; omega)
          rw [List.drop_eq_nil_of_le (by omega)] at this
          simpa [words] using this
    · rw [List.drop_eq_nil_of_le (by omega)]
      refine Ev.step (f := fun _ => some acc) (fun k => ?_) (by simp only [words, List.append_nil]; exact Ev.now _)
      simp only [crosswayref02_Words.l0]; rw [if_neg (by omega)]
theorem words_ev (b : List Int) (hb : Bytes b) (hl : b.length ≤ 140737488351232) : Ev (fun k => crosswayref02_Words.f k b) (words b) := by
  have h := words_l0 b hb hl b.length 0 [] (by omega) (by omega) (by omega) rfl
  rw [List.nil_append, List.drop_zero] at h
  exact h
theorem rsum_l0 (l : List Int) (hb : ∀ x ∈ l, R x) (hl : l.length ≤ 140737488351232) : ∀ (d i : Nat) (n : Int), l.length = i + d → R n →
    Ev (fun k => crosswayref02_Sum.l0 k l n (i : Int)) ((l.drop i).foldl oadd n) := by
  intro d
  induction d with
  | zero =>
    intro i n h hn
    rw [List.drop_eq_nil_of_le (by omega)]
    refine Ev.step (f := fun _ => some n) (fun k => ?_) (Ev.now _)
    simp only [crosswayref02_Sum.l0]; rw [if_neg (by omega)]
  | succ d ih =>
    intro i n h hn
    have hlt : i < l.length := by omega
    have hc := hb _ (List.getElem_mem hlt)
    rw [List.drop_eq_getElem_cons hlt, List.foldl_cons]
    refine Ev.step (f := fun k => crosswayref02_Sum.l0 k l (oadd n l[i]) ((i + 1 : Nat) : Int)) (fun k => ?_) (ih (i + 1) _ (by omega) (oadd_R hn hc))
    simp only [crosswayref02_Sum.l0]
    have e1 : wrap64 ((i : Int) + 1) = ((i + 1 : Nat) : Int) := by rw [w64 (by omega) (by omega)]; omega
    rw [if_pos (by omega), if_pos (by omega), rd_at hlt, radd_eq hn hc, e1]; rfl
theorem rsum_ev (b : List Int) (hb : Bytes b) (hl : b.length ≤ 140737488351232) : Ev (fun k => crosswayref02_Sum.f k b) (S b) := by
  unfold crosswayref02_Sum.f
  refine Ev.bind (words_ev b hb hl) ?_
  have h := rsum_l0 (words b) (words_R hb) (by rw [words_length]; omega) (words b).length 0 0 (by omega) R_zero
  rw [List.drop_zero, fold_words_S hb] at h
  exact h
theorem rcheck_ev (b : List Int) (hb : Bytes b) (hl : b.length ≤ 140737488351232) : Ev (fun k => crosswayref02_Check.f k b) (65535 - S b) := by
  unfold crosswayref02_Check.f
  refine Ev.bind (rsum_ev b hb hl) (ev_eq fun k => ?_)
  have h := S_R hb
  unfold R at h
  rw [w16 (by omega) (by omega)]
theorem sums_l2 (all : List Int) (a b : Int) (hl : all.length ≤ 140737488351232) (h : Ev (fun k => (crosswayref02_Sum.f k all).bind fun t216 => (if a = t216 then ((crosswayref02_Check.f k all).bind fun t217 => (some (b == t217))) else (some false))) true) :
    ∀ d i : Nat, all.length = i + d → Ev (fun k => crosswaylaw02_TallySums.l2 k true all a b all (i : Int)) true := by
  intro d
  induction d with
  | zero =>
    intro i e
    refine Ev.step (fun k => ?_) h
    simp only [crosswaylaw02_TallySums.l2]; rw [if_neg (by omega), if_pos trivial]
  | succ d ih =>
    intro i e
    refine Ev.step (f := fun k => crosswaylaw02_TallySums.l2 k true all a b all ((i + 1 : Nat) : Int)) (fun k => ?_) (ih (i + 1) (by omega))
    have e1 : wrap64 ((i : Int) + 1) = ((i + 1 : Nat) : Int) := by rw [w64 (by omega) (by omega)]; omega
    simp only [crosswaylaw02_TallySums.l2]; rw [if_pos (by omega), if_pos (by omega), if_pos (by omega), if_pos trivial, e1]
theorem flat_drop {x0 : List (List Int)} {j : Nat} (h : j < x0.length) : (x0.drop j).flatten = x0[j] ++ (x0.drop (j + 1)).flatten := by
  rw [List.drop_eq_getElem_cons h, List.flatten_cons]
theorem rdl_at {x0 : List (List Int)} {j : Nat} (h : j < x0.length) : rd_L1 x0 (j : Int) = x0[j] := by simp [rd_L1, List.getElem?_eq_getElem h]
theorem sums_l1 (x0 : List (List Int)) (all : List Int) (a b : Int) (hl : x0.length ≤ 140737488351232) (r : Bool) (h : Ev (fun k => crosswaylaw02_TallySums.l2 k true all a b x0.flatten 0) r) :
    ∀ (d j : Nat) (acc : List Int), x0.length = j + d → acc ++ (x0.drop j).flatten = x0.flatten → x0.flatten.length ≤ 70368744177664 → Ev (fun k => crosswaylaw02_TallySums.l1 k x0 true all a b acc (j : Int)) r := by
  intro d
  induction d with
  | zero =>
    intro j acc e ha hn
    rw [List.drop_eq_nil_of_le (by omega), List.flatten_nil, List.append_nil] at ha
    subst ha
    refine Ev.step (fun k => ?_) h
    simp only [crosswaylaw02_TallySums.l1]; rw [if_neg (by omega)]
  | succ d ih =>
    intro j acc e ha hn
    have hlt : j < x0.length := by omega
    rw [flat_drop hlt, ← List.append_assoc] at ha
    have hlen := congrArg List.length ha
    simp only [List.length_append] at hlen
    refine Ev.step (f := fun k => crosswaylaw02_TallySums.l1 k x0 true all a b (acc ++ x0[j]) ((j + 1 : Nat) : Int)) (fun k => ?_) (ih (j + 1) _ (by omega) ha hn)
    have e1 : wrap64 ((j : Int) + 1) = ((j + 1 : Nat) : Int) := by rw [w64 (by omega) (by omega)]; omega
    simp only [crosswaylaw02_TallySums.l1]; rw [if_pos (by omega), if_pos (by omega), rdl_at hlt, if_pos (by omega), e1]
theorem sums_l0 (x0 : List (List Int)) (hl : x0.length ≤ 140737488351232) (r : Bool)
    (h : Ev (fun k => (tally_Sum.f k x0).bind fun t208 => ((tally_Check.f k x0).bind fun t209 => (crosswaylaw02_TallySums.l1 k x0 true x0.flatten t208 t209 ([] : List Int) 0))) r) :
    ∀ (d j : Nat) (acc : List Int), x0.length = j + d → acc ++ (x0.drop j).flatten = x0.flatten → x0.flatten.length ≤ 70368744177664 → Ev (fun k => crosswaylaw02_TallySums.l0 k x0 true acc (j : Int)) r := by
  intro d
  induction d with
  | zero =>
    intro j acc e ha hn
    rw [List.drop_eq_nil_of_le (by omega), List.flatten_nil, List.append_nil] at ha
    subst ha
    refine Ev.step (fun k => ?_) h
    simp only [crosswaylaw02_TallySums.l0]; rw [if_neg (by omega)]
  | succ d ih =>
    intro j acc e ha hn
    have hlt : j < x0.length := by omega
    rw [flat_drop hlt, ← List.append_assoc] at ha
    have hlen := congrArg List.length ha
    simp only [List.length_append] at hlen
    refine Ev.step (f := fun k => crosswaylaw02_TallySums.l0 k x0 true (acc ++ x0[j]) ((j + 1 : Nat) : Int)) (fun k => ?_) (ih (j + 1) _ (by omega) ha hn)
    have e1 : wrap64 ((j : Int) + 1) = ((j + 1 : Nat) : Int) := by rw [w64 (by omega) (by omega)]; omega
    simp only [crosswaylaw02_TallySums.l0]; rw [if_pos (by omega), if_pos (by omega), rdl_at hlt, if_pos (by omega), e1]
theorem sum_ones (p : List Int) : (p.map fun _ => 1).sum = p.length := by
  induction p with
  | nil => rfl
  | cons a p ih => simp only [List.map_cons, List.sum_cons, ih, List.length_cons]; omega
theorem sum_flat (x0 : List (List Int)) : (x0.map fun p => (p.map fun _ => 1).sum + 1).sum = x0.flatten.length + x0.length := by
  induction x0 with
  | nil => rfl
  | cons p x0 ih =>
    rw [List.map_cons, List.sum_cons, ih, sum_ones p, List.flatten_cons, List.length_append, List.length_cons]; omega
theorem TallySums (x0 : List (List Int)) (_ : x0.length * 24 ≤ 140737488351232) (hb0 : ∀ p ∈ x0, p.length * 1 ≤ 140737488351232 ∧ ∀ x ∈ p, (Lit.int .u8 x).wf = true) (hk : (x0.map fun p => (p.map fun _ => 1).sum + 1).sum + 1 + 0 ≤ 1048576) : ∃ k, crosswaylaw02_TallySums.f k x0 = some true := by
  rw [sum_flat] at hk
  have hb : ∀ p ∈ x0, Bytes p := fun p hp => bytes_of_wf (hb0 p hp).2
  have hl : x0.length ≤ 70368744177664 := by omega
  have hn : x0.flatten.length ≤ 70368744177664 := by omega
  have hb2 : ∀ p ∈ x0, Bytes p ∧ p.length ≤ 140737488351232 := fun p hp => ⟨hb p hp, by
    have := List.Sublist.length_le (List.sublist_flatten_of_mem hp); omega⟩
  have fb := flat_bytes hb2
  refine Ev.rounds (r := true) ?_
  unfold crosswaylaw02_TallySums.f
  refine Ev.bind awake_ev (sums_l0 x0 (by omega) true ?_ x0.length 0 [] (by omega) (by simp) hn)
  refine Ev.bind (sum_ev x0 hb2 (by omega)) (Ev.bind (check_ev x0 hb2 (by omega)) (sums_l1 x0 _ _ _ (by omega) true ?_ x0.length 0 [] (by omega) (by simp) hn))
  refine sums_l2 x0.flatten _ _ (by omega) ?_ x0.flatten.length 0 (by omega)
  refine Ev.bind (rsum_ev _ fb (by omega)) (ev_pos rfl (Ev.bind (rcheck_ev _ fb (by omega)) (ev_eq fun k => by simp)))

end Go.Proofs.Ytgloieofdnpggaa.Pure
