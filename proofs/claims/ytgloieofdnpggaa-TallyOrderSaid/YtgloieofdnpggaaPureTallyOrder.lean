/-
  The law TallyOrder: the sum does not hang on the order of the words; of words turned round it is turned round; an even part may be summed by itself; for any bytes and any place. Out of the walk and of what the calls come to.
-/
import Derived.Test.YtgloieofdnpggaaWTallyOrder
set_option linter.unusedVariables false
set_option linter.unusedSimpArgs false
namespace Go.Proofs.Ytgloieofdnpggaa.Pure
open Go.RowKit Go.Proofs.Ytgloieofdnpggaa.PBase Go.Proofs.YtgloieofdnpggaaW.PrintWords Go.Proofs.YtgloieofdnpggaaW.PrintLast Go.Proofs.Ytgloieofdnpggaa.MTally
/-! What the printed functions of tally and of the reference come to. -/
theorem w64 {n : Int} (h0 : -9223372036854775808 ≤ n) (h1 : n ≤ 9223372036854775807) : wrap64 n = n := by unfold wrap64; omega
theorem w16 {n : Int} (h0 : 0 ≤ n) (h1 : n ≤ 65535) : IntKind.u16.wrap n = n := by
  simp only [IntKind.wrap, IntKind.signed, IntKind.bits, Bool.false_and, Bool.false_eq_true, if_false]; omega
theorem w16' (n : Int) : IntKind.u16.wrap n = n % 65536 := by
  simp only [IntKind.wrap, IntKind.signed, IntKind.bits, Bool.false_and, Bool.false_eq_true, if_false]; rfl
theorem ev_pos {α : Type} {c : Prop} [Decidable c] {f g : Nat → Option α} {r : α} (hc : c) (h : Ev f r) : Ev (fun k => if c then f k else g k) r := by
  simp only [if_pos hc]; exact h
theorem ev_neg {α : Type} {c : Prop} [Decidable c] {f g : Nat → Option α} {r : α} (hc : ¬ c) (h : Ev g r) : Ev (fun k => if c then f k else g k) r := by
  simp only [if_neg hc]; exact h
theorem ev_eq {α : Type} {f : Nat → Option α} {r : α} (h : ∀ k, f k = some r) : Ev f r := ⟨0, fun k _ => h k⟩
theorem ev_bind {α β : Type} {o : Option α} {f : Nat → α → Option β} {a : α} {r : β} (h : o = some a) (k : Ev (fun n => f n a) r) : Ev (fun n => o.bind (f n)) r := by
  subst h; exact k
theorem add_eq {a b : Int} (ha : R a) (hb : R b) : tally_Add.f a b = some (oadd a b) := by
  unfold R at ha hb
  unfold tally_Add.f oadd
  rw [w16']
  congr 1
  split <;> omega
theorem upd_eq {a b c : Int} (ha : R a) (hb : R b) (hc : R c) : tally_Update.f a b c = some (65535 - oadd (oadd (65535 - a) (65535 - b)) c) := by
  have h := oadd_R (oadd_R (R_compl ha) (R_compl hb)) hc
  unfold tally_Update.f
  unfold R at ha hb hc h
  rw [w16 (n := 65535 - a) (by omega) (by omega), w16 (n := 65535 - b) (by omega) (by omega), add_eq (R_compl ha) (R_compl hb)]
  simp only [Option.bind_some]
  rw [add_eq (oadd_R (R_compl ha) (R_compl hb)) hc]
  simp only [Option.bind_some]
  rw [w16 (by omega) (by omega)]
theorem rd_at {xs : List Int} {i : Nat} (h : i < xs.length) : rd xs (i : Int) = xs[i] := by
  simp [rd, List.getElem?_eq_getElem h]
theorem byte_at {xs : List Int} (hb : Bytes xs) {i : Nat} (h : i < xs.length) : 0 ≤ xs[i] ∧ xs[i] ≤ 255 := hb _ (List.getElem_mem h)
/-- A toggled flag. -/
def tog (hi : Bool) (d : Nat) : Bool := if d % 2 = 0 then hi else !hi
theorem tog_succ (hi : Bool) (d : Nat) : tog (!hi) d = tog hi (d + 1) := by
  unfold tog
  by_cases h : d % 2 = 0
  · rw [if_pos h, if_neg (by omega)]
  · rw [if_neg h, if_pos (by omega)]; cases hi <;> rfl
theorem sum_l1 (x0 : List (List Int)) (len j r : Int) (row : List Int) (hb : Bytes row) (hl : row.length ≤ 140737488351232) : ∀ (d i : Nat) (n : Int) (hi : Bool), row.length = i + d → R n →
    Ev (fun k => tally_Sum.l0 k x0 (sumB n hi (row.drop i)) (tog hi d) len (wrap64 (j + 1))) r →
    Ev (fun k => tally_Sum.l1 k x0 n hi len j row (row.length : Int) (i : Int)) r := by
  intro d
  induction d with
  | zero =>
    intro i n hi he hn h
    refine Ev.step (f := fun k => tally_Sum.l0 k x0 n hi len (wrap64 (j + 1))) (fun k => ?_) ?_
    · simp only [tally_Sum.l1]; rw [if_neg (by omega)]
    · have e : row.drop i = [] := List.drop_eq_nil_of_le (by omega)
      rw [e] at h; exact h
  | succ d ih =>
    intro i n hi he hn h
    have hlt : i < row.length := by omega
    have hc := byte_at hb hlt
    have ed : row.drop i = row[i] :: row.drop (i + 1) := List.drop_eq_getElem_cons hlt
    rw [ed] at h
    have hw : wrap64 ((i : Int) + 1) = ((i + 1 : Nat) : Int) := by rw [w64 (by omega) (by omega)]; omega
    cases hi with
    | true =>
      refine Ev.step (f := fun k => tally_Sum.l1 k x0 (oadd n (row[i] * 256)) false len j row (row.length : Int) ((i + 1 : Nat) : Int)) (fun k => ?_) ?_
      · simp only [tally_Sum.l1]
        rw [if_pos (by omega), if_pos (by omega), if_pos (by omega), if_pos trivial, rd_at hlt, w16 (n := row[i]) (by omega) (by omega), w16 (by omega) (by omega), add_eq hn (by unfold R; omega)]
        simp only [Option.bind_some, Bool.not_true]; rw [hw]
      · exact ih (i + 1) _ _ (by omega) (oadd_R hn (by unfold R; omega)) (by rw [show tog false d = tog true (d + 1) from tog_succ true d]; exact h)
    | false =>
      refine Ev.step (f := fun k => tally_Sum.l1 k x0 (oadd n row[i]) true len j row (row.length : Int) ((i + 1 : Nat) : Int)) (fun k => ?_) ?_
      · simp only [tally_Sum.l1]
        rw [if_pos (by omega), if_pos (by omega), if_pos (by omega), if_neg (by decide), rd_at hlt, w16 (n := row[i]) (by omega) (by omega), add_eq hn (by unfold R; omega)]
        simp only [Option.bind_some, Bool.not_false]; rw [hw]
      · exact ih (i + 1) _ _ (by omega) (oadd_R hn (by unfold R; omega)) (by rw [show tog true d = tog false (d + 1) from tog_succ false d]; exact h)
theorem sum_l0 (x0 : List (List Int)) (hb : ∀ p ∈ x0, Bytes p ∧ p.length ≤ 140737488351232) (hl : x0.length ≤ 140737488351232) : ∀ (d j : Nat) (n : Int) (hi : Bool), x0.length = j + d → R n →
    Ev (fun k => tally_Sum.l0 k x0 n hi (x0.length : Int) (j : Int)) (sumB n hi (x0.drop j).flatten) := by
  intro d
  induction d with
  | zero =>
    intro j n hi he hn
    have e : x0.drop j = [] := List.drop_eq_nil_of_le (by omega)
    rw [e]
    refine Ev.step (f := fun k => some n) (fun k => ?_) (Ev.now _)
    simp only [tally_Sum.l0]; rw [if_neg (by omega)]
  | succ d ih =>
    intro j n hi he hn
    have hlt : j < x0.length := by omega
    have ed : x0.drop j = x0[j] :: x0.drop (j + 1) := List.drop_eq_getElem_cons hlt
    have hr : rd_L1 x0 (j : Int) = x0[j] := by simp [rd_L1, List.getElem?_eq_getElem hlt]
    have hm := hb _ (List.getElem_mem hlt)
    have hw : wrap64 ((j : Int) + 1) = ((j + 1 : Nat) : Int) := by rw [w64 (by omega) (by omega)]; omega
    rw [ed, List.flatten_cons, sumB_append]
    refine Ev.step (f := fun k => tally_Sum.l1 k x0 n hi (x0.length : Int) (j : Int) x0[j] (x0[j].length : Int) ((0 : Nat) : Int)) (fun k => ?_) ?_
    · simp only [tally_Sum.l0]
      rw [if_pos (by omega), if_pos (by omega), if_pos (by omega), hr]; rfl
    · refine sum_l1 x0 _ _ _ _ hm.1 hm.2 x0[j].length 0 n hi (by omega) hn ?_
      rw [hw, List.drop_zero]
      exact ih (j + 1) _ _ (by omega) (sumB_R hn hm.1)
theorem sum_ev (x0 : List (List Int)) (hb : ∀ p ∈ x0, Bytes p ∧ p.length ≤ 140737488351232) (hl : x0.length ≤ 140737488351232) : Ev (fun k => tally_Sum.f k x0) (S x0.flatten) := by
  have h := sum_l0 x0 hb hl x0.length 0 0 true (by omega) R_zero
  have hf : Bytes x0.flatten := fun y hy => by
    obtain ⟨p, hp, hy⟩ := List.mem_flatten.1 hy
    exact (hb p hp).1 y hy
  rw [List.drop_zero, sumB_S hf] at h
  exact h
theorem flat_bytes {x0 : List (List Int)} (hb : ∀ p ∈ x0, Bytes p ∧ p.length ≤ 140737488351232) : Bytes x0.flatten := fun y hy => by
  obtain ⟨p, hp, hy⟩ := List.mem_flatten.1 hy
  exact (hb p hp).1 y hy
theorem check_ev (x0 : List (List Int)) (hb : ∀ p ∈ x0, Bytes p ∧ p.length ≤ 140737488351232) (hl : x0.length ≤ 140737488351232) : Ev (fun k => tally_Check.f k x0) (65535 - S x0.flatten) := by
  unfold tally_Check.f
  refine Ev.bind (sum_ev x0 hb hl) (ev_eq fun k => ?_)
  have h := S_R (flat_bytes hb)
  unfold R at h
  rw [w16 (by omega) (by omega)]
theorem one_part {p : List Int} (hp : Bytes p) (hl : p.length ≤ 140737488351232) : ∀ q ∈ [p], Bytes q ∧ q.length ≤ 140737488351232 := by
  intro q hq; simp only [List.mem_singleton] at hq; subst hq; exact ⟨hp, hl⟩
theorem sum1_ev {p : List Int} (hp : Bytes p) (hl : p.length ≤ 140737488351232) : Ev (fun k => tally_Sum.f k [p]) (S p) := by
  have h := sum_ev [p] (one_part hp hl) (by simp)
  simpa using h
theorem check1_ev {p : List Int} (hp : Bytes p) (hl : p.length ≤ 140737488351232) : Ev (fun k => tally_Check.f k [p]) (65535 - S p) := by
  have h := check_ev [p] (one_part hp hl) (by simp)
  simpa using h
theorem awake_ev : Ev (fun k => crosswaylaw02_awake.f k) true := Ev.of (fun k => crosswaylaw02_awake.mono k) (k := 80) (by decide +kernel)
theorem R_of_wf {a : Int} (h : (Lit.int .u16 a).wf = true) : R a := by
  have := h
  simp [Lit.wf, IntKind.min, IntKind.max, IntKind.signed, IntKind.bits] at this
  exact this
theorem byte_of_wf {a : Int} (h : (Lit.int .u8 a).wf = true) : 0 ≤ a ∧ a ≤ 255 := by
  have := h
  simp [Lit.wf, IntKind.min, IntKind.max, IntKind.signed, IntKind.bits] at this
  exact this
theorem i64_of_wf {a : Int} (h : (Lit.int .i64 a).wf = true) : -9223372036854775808 ≤ a ∧ a ≤ 9223372036854775807 := by
  have := h
  simp [Lit.wf, IntKind.min, IntKind.max, IntKind.signed, IntKind.bits] at this
  exact this
theorem bytes_of_wf {l : List Int} (h : ∀ x ∈ l, (Lit.int .u8 x).wf = true) : Bytes l := fun x hx => byte_of_wf (h x hx)
/-- The place that 'word' names, if there is one: even, with a whole word behind it. -/
theorem word_eq {l : List Int} {a : Int} (hl : l.length ≤ 140737488351232) (ha : -9223372036854775808 ≤ a ∧ a ≤ 9223372036854775807) :
    (l.length < 2 ∧ crosswaylaw02_word.f l a = some (0, false)) ∨ ∃ k : Nat, k % 2 = 0 ∧ k + 1 < l.length ∧ crosswaylaw02_word.f l a = some ((k : Int), true) := by
  unfold crosswaylaw02_word.f
  have e : wrap64 ((l.length : Int) / 2) = (l.length : Int) / 2 := w64 (by omega) (by omega)
  rw [e]
  by_cases h : l.length < 2
  · exact .inl ⟨h, by rw [if_pos (by omega)]⟩
  · right
    have hn : 0 < (l.length : Int) / 2 := by omega
    rw [if_neg (by omega)]
    have key : ∀ b : Int, 0 ≤ b → ∃ k : Nat, k % 2 = 0 ∧ k + 1 < l.length ∧ wrap64 (Int.tmod b ((l.length : Int) / 2) * 2) = (k : Int) := by
      intro b hb
      have h0 : Int.tmod b ((l.length : Int) / 2) = b % ((l.length : Int) / 2) := Int.tmod_eq_emod_of_nonneg hb
      have h1 := Int.emod_nonneg b (show (l.length : Int) / 2 ≠ 0 by omega)
      have h2 := Int.emod_lt_of_pos b hn
      rw [h0]
      generalize b % ((l.length : Int) / 2) = m at h1 h2
      refine ⟨m.toNat * 2, by omega, by omega, ?_⟩
      rw [w64 (by omega) (by omega)]; omega
    by_cases hneg : a < 0
    · rw [if_pos hneg, w64 (n := a + 1) (by omega) (by omega), w64 (n := -(a + 1)) (by omega) (by omega)]
      obtain ⟨k, h1, h2, h3⟩ := key (-(a + 1)) (by omega)
      exact ⟨k, h1, h2, by rw [h3]⟩
    · rw [if_neg hneg]
      obtain ⟨k, h1, h2, h3⟩ := key a (by omega)
      exact ⟨k, h1, h2, by rw [h3]⟩
theorem facts {l : List Int} {p : Nat} (hb : Bytes l) (hl : l.length ≤ 140737488351232) (hev : l.length % 2 = 0) (hp : p % 2 = 0) (hpl : p ≤ l.length) :
    ∃ K, ∀ k, K ≤ k → WTallyOrder.Facts k l p (S l) (S (turn l)) (S (l.take p)) (S (l.drop p)) := by
  have st : S (l.take p ++ l.drop p) = oadd (S (l.take p)) (S (l.drop p)) := S_append (by rw [List.length_take, Nat.min_eq_left hpl]; exact hp) (hb.take p) (hb.drop p)
  have st2 : S (l.drop p ++ l.take p) = oadd (S (l.drop p)) (S (l.take p)) := S_append (by rw [List.length_drop]; omega) (hb.drop p) (hb.take p)
  rw [List.take_append_drop] at st
  have hm : S (l.drop p ++ l.take p) = S l := by rw [st2, oadd_comm, ← st]
  have sl := S_R hb
  unfold R at sl
  obtain ⟨k1, h1⟩ := sum1_ev hb hl
  obtain ⟨k2, h2⟩ := sum1_ev (turn_bytes hb) (by rw [turn_length]; omega)
  obtain ⟨k3, h3⟩ := sum1_ev (p := l.drop p ++ l.take p) ((hb.drop p).append (hb.take p)) (by rw [List.length_append, List.length_drop, List.length_take]; omega)
  obtain ⟨k4, h4⟩ := sum1_ev (hb.take p) (by rw [List.length_take]; omega)
  obtain ⟨k5, h5⟩ := sum1_ev (hb.drop p) (by rw [List.length_drop]; omega)
  rw [hm] at h3
  refine ⟨k1 + k2 + k3 + k4 + k5, fun k hk => ⟨h1 _ (by omega), h2 _ (by omega), h3 _ (by omega), h4 _ (by omega), h5 _ (by omega), ?_, sl.1, sl.2, ?_, hpl, hev, hl⟩⟩
  · rw [add_eq (S_R (hb.take p)) (S_R (hb.drop p)), ← st]
  · exact S_turn hev hb
theorem S_nil : S ([] : List Int) = 0 := rfl
theorem calls (A0 : Option Addr) (c0 : Nat) (l : List Int) (a : Int) (hl : l.length * 1 ≤ 140737488351232) (hb : ∀ x ∈ l, (Lit.int .u8 x).wf = true) (ha : (Lit.int .i64 a).wf = true)
    (w : World) (hr0 : Kd.C (Kd.int .u8) w A0 l.length l) (hc0 : l.length ≤ c0) :
    Calls Try.prog 9 #[.slice A0 l.length c0, .int .i64 a] w fun e w' => e = .returned (.bool true) ∧ Below w.heap.size w w' := by
  have hb := bytes_of_wf hb
  have ha := i64_of_wf ha
  rw [Nat.mul_one] at hl
  obtain ⟨ka, hka⟩ := awake_ev
  by_cases hlt : l.length < 2
  · obtain ⟨ks, hks⟩ := sum1_ev Bytes.nil (by decide)
    have hw : crosswaylaw02_word.f ([] : List Int) a = some (0, false) := by
      rcases word_eq (l := []) (by decide) ha with ⟨_, h⟩ | ⟨k, _, h, _⟩
      · exact h
      · simp at h
    exact WTallyOrder.noword (ka + ks) A0 c0 l a w hr0 hc0 hlt (hka _ (by omega)) hw (hks _ (by omega))
  · obtain ⟨l2, hcase, hev, hle, hbl, h2⟩ : ∃ l2 : List Int, (((l.length : Int) % 2 = 1 ∧ l2 = l.take (l.length - 1)) ∨ ((l.length : Int) % 2 = 0 ∧ l2 = l)) ∧ l2.length % 2 = 0 ∧ l2.length ≤ l.length ∧ Bytes l2 ∧ 2 ≤ l2.length := by
      by_cases ho : (l.length : Int) % 2 = 1
      · exact ⟨_, .inl ⟨ho, rfl⟩, by rw [List.length_take]; omega, by rw [List.length_take]; omega, hb.take _, by rw [List.length_take]; omega⟩
      · exact ⟨_, .inr ⟨by omega, rfl⟩, by omega, Nat.le_refl _, hb, by omega⟩
    rcases word_eq (l := l2) (by omega) ha with ⟨h, _⟩ | ⟨p, hp, hpl, hw⟩
    · omega
    · obtain ⟨K, hK⟩ := facts hbl (by omega) hev hp (by omega)
      exact WTallyOrder.main (ka + K) A0 c0 l l2 a p _ _ _ _ w hr0 hc0 hl hcase (hka _ (by omega)) hw (hK _ (by omega))
end Go.Proofs.Ytgloieofdnpggaa.Pure
