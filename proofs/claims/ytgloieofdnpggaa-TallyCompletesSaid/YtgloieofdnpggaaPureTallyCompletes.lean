/-
  The pure law TallyCompletes: bytes that hold their own check at an even place sum up to all ones; for any bytes and any place.
-/
import Derived.Test.YtgloieofdnpggaaPTallyCompletesx3
import Derived.Test.YtgloieofdnpggaaMTally
namespace Go.Proofs.Ytgloieofdnpggaa.Pure
open Go.RowKit Go.Proofs.Ytgloieofdnpggaa.PTallyCompletes Go.Proofs.YtgloieofdnpggaaW.PrintWords Go.Proofs.YtgloieofdnpggaaW.PrintLast Go.Proofs.Ytgloieofdnpggaa.MTally
/-! What the printed functions of tally and of the reference come to. -/
theorem w64 {n : Int} (h0 : -9223372036854775808 ≤ n) (h1 : n ≤ 9223372036854775807) : wrap64 n = n := by unfold wrap64; omega
theorem w16 {n : Int} (h0 : 0 ≤ n) (h1 : n ≤ 65535) : IntKind.u16.wrap n = n := by
  simp only [IntKind.wrap, IntKind.signed, IntKind.bits, Bool.false_and, Bool.false_eq_true, if_false]; omega
theorem w16' (n : Int) : IntKind.u16.wrap n = n % 65536 := by
  simp only [IntKind.wrap, IntKind.signed, IntKind.bits, Bool.false_and, Bool.false_eq_true, if_false]; rfl
theorem ev_pos {α : Type} {c : Prop} [Decidable c] {f g : Nat → Option α} {r : α} (hc : c) (h : Ev f r) : Ev (fun k => if c then f k else g k) r := by
  simp only [if_pos hc]; exact h
theorem ev_neg {α : Type} {c : Prop} [Decidable c] {f g : Nat → Option α} {r : α} (hc : ¬ c) (h : Ev g r) : Ev (fun k => if c then f k else g k) r := by
  simp only [if_neg hc]; exact h
theorem ev_eq {α : Type} {f : Nat → Option α} {r : α} (h : ∀ k, f k = some r) : Ev f r := ⟨0, fun k _ => h k⟩
theorem ev_bind {α β : Type} {o : Option α} {f : Nat → α → Option β} {a : α} {r : β} (h : o = some a) (k : Ev (fun n => f n a) r) : Ev (fun n => o.bind (f n)) r := by
  subst h; exact k
theorem add_eq {a b : Int} (ha : R a) (hb : R b) : tally_Add.f a b = some (oadd a b) := by
  unfold R at ha hb
  unfold tally_Add.f oadd
  rw [w16']
  congr 1
  split <;> omega
theorem upd_eq {a b c : Int} (ha : R a) (hb : R b) (hc : R c) : tally_Update.f a b c = some (65535 - oadd (oadd (65535 - a) (65535 - b)) c) := by
  have h := oadd_R (oadd_R (R_compl ha) (R_compl hb)) hc
  unfold tally_Update.f
  unfold R at ha hb hc h
  rw [w16 (n := 65535 - a) (by omega) (by omega), w16 (n := 65535 - b) (by omega) (by omega), add_eq (R_compl ha) (R_compl hb)]
  simp only [Option.bind_some]
  rw [add_eq (oadd_R (R_compl ha) (R_compl hb)) hc]
  simp only [Option.bind_some]
  rw [w16 (by omega) (by omega)]
theorem rd_at {xs : List Int} {i : Nat} (h : i < xs.length) : rd xs (i : Int) = xs[i] := by
  simp [rd, List.getElem?_eq_getElem h]
theorem byte_at {xs : List Int} (hb : Bytes xs) {i : Nat} (h : i < xs.length) : 0 ≤ xs[i] ∧ xs[i] ≤ 255 := hb _ (List.getElem_mem h)
/-- A toggled flag. -/
def tog (hi : Bool) (d : Nat) : Bool := if d % 2 = 0 then hi else !hi
theorem tog_succ (hi : Bool) (d : Nat) : tog (!hi) d = tog hi (d + 1) := by
  unfold tog
  by_cases h : d % 2 = 0
  · rw [if_pos h, if_neg (by omega)]
  · rw [if_neg h, if_pos (by omega)]; cases hi <;> rfl
theorem sum_l1 (x0 : List (List Int)) (len j r : Int) (row : List Int) (hb : Bytes row) (hl : row.length ≤ 140737488351232) : ∀ (d i : Nat) (n : Int) (hi : Bool), row.length = i + d → R n →
    Ev (fun k => tally_Sum.l0 k x0 (sumB n hi (row.drop i)) (tog hi d) len (wrap64 (j + 1))) r →
    Ev (fun k => tally_Sum.l1 k x0 n hi len j row (row.length : Int) (i : Int)) r := by
  intro d
  induction d with
  | zero =>
    intro i n hi he hn h
    refine Ev.step (f := fun k => tally_Sum.l0 k x0 n hi len (wrap64 (j + 1))) (fun k => ?_) ?_
    · simp only [tally_Sum.l1]; rw [if_neg (by omega)]
    · have e : row.drop i = [] := List.drop_eq_nil_of_le (by omega)
      rw [e] at h; exact h
  | succ d ih =>
    intro i n hi he hn h
    have hlt : i < row.length := by omega
    have hc := byte_at hb hlt
    have ed : row.drop i = row[i] :: row.drop (i + 1) := List.drop_eq_getElem_cons hlt
    rw [ed] at h
    have hw : wrap64 ((i : Int) + 1) = ((i + 1 : Nat) : Int) := by rw [w64 (by omega) (by omega)]; omega
    cases hi with
    | true =>
      refine Ev.step (f := fun k => tally_Sum.l1 k x0 (oadd n (row[i] * 256)) false len j row (row.length : Int) ((i + 1 : Nat) : Int)) (fun k => ?_) ?_
      · simp only [tally_Sum.l1]
        rw [if_pos (by omega), if_pos (by omega), if_pos (by omega), if_pos trivial, rd_at hlt, w16 (n := row[i]) (by omega) (by omega), w16 (by omega) (by omega), add_eq hn (by unfold R; omega)]
        simp only [Option.bind_some, Bool.not_true]; rw [hw]
      · exact ih (i + 1) _ _ (by omega) (oadd_R hn (by unfold R; omega)) (by rw [show tog false d = tog true (d + 1) from tog_succ true d]; exact h)
    | false =>
      refine Ev.step (f := fun k => tally_Sum.l1 k x0 (oadd n row[i]) true len j row (row.length : Int) ((i + 1 : Nat) : Int)) (fun k => ?_) ?_
      · simp only [tally_Sum.l1]
        rw [if_pos (by omega), if_pos (by omega), if_pos (by omega), if_neg (by decide), rd_at hlt, w16 (n := row[i]) (by omega) (by omega), add_eq hn (by unfold R; omega)]
        simp only [Option.bind_some, Bool.not_false]; rw [hw]
      · exact ih (i + 1) _ _ (by omega) (oadd_R hn (by unfold R; omega)) (by rw [show tog true d = tog false (d + 1) from tog_succ false d]; exact h)
theorem sum_l0 (x0 : List (List Int)) (hb : ∀ p ∈ x0, Bytes p ∧ p.length ≤ 140737488351232) (hl : x0.length ≤ 140737488351232) : ∀ (d j : Nat) (n : Int) (hi : Bool), x0.length = j + d → R n →
    Ev (fun k => tally_Sum.l0 k x0 n hi (x0.length : Int) (j : Int)) (sumB n hi (x0.drop j).flatten) := by
  intro d
  induction d with
  | zero =>
    intro j n hi he hn
    have e : x0.drop j = [] := List.drop_eq_nil_of_le (by omega)
    rw [e]
    refine Ev.step (f := fun k => some n) (fun k => ?_) (Ev.now _)
    simp only [tally_Sum.l0]; rw [if_neg (by omega)]
  | succ d ih =>
    intro j n hi he hn
    have hlt : j < x0.length := by omega
    have ed : x0.drop j = x0[j] :: x0.drop (j + 1) := List.drop_eq_getElem_cons hlt
    have hr : rd_L1 x0 (j : Int) = x0[j] := by simp [rd_L1, List.getElem?_eq_getElem hlt]
    have hm := hb _ (List.getElem_mem hlt)
    have hw : wrap64 ((j : Int) + 1) = ((j + 1 : Nat) : Int) := by rw [w64 (by omega) (by omega)]; omega
    rw [ed, List.flatten_cons, sumB_append]
    refine Ev.step (f := fun k => tally_Sum.l1 k x0 n hi (x0.length : Int) (j : Int) x0[j] (x0[j].length : Int) ((0 : Nat) : Int)) (fun k => ?_) ?_
    · simp only [tally_Sum.l0]
      rw [if_pos (by omega), if_pos (by omega), if_pos (by omega), hr]; rfl
    · refine sum_l1 x0 _ _ _ _ hm.1 hm.2 x0[j].length 0 n hi (by omega) hn ?_
      rw [hw, List.drop_zero]
      exact ih (j + 1) _ _ (by omega) (sumB_R hn hm.1)
theorem sum_ev (x0 : List (List Int)) (hb : ∀ p ∈ x0, Bytes p ∧ p.length ≤ 140737488351232) (hl : x0.length ≤ 140737488351232) : Ev (fun k => tally_Sum.f k x0) (S x0.flatten) := by
  have h := sum_l0 x0 hb hl x0.length 0 0 true (by omega) R_zero
  have hf : Bytes x0.flatten := fun y hy => by
    obtain ⟨p, hp, hy⟩ := List.mem_flatten.1 hy
    exact (hb p hp).1 y hy
  rw [List.drop_zero, sumB_S hf] at h
  exact h
theorem flat_bytes {x0 : List (List Int)} (hb : ∀ p ∈ x0, Bytes p ∧ p.length ≤ 140737488351232) : Bytes x0.flatten := fun y hy => by
  obtain ⟨p, hp, hy⟩ := List.mem_flatten.1 hy
  exact (hb p hp).1 y hy
theorem check_ev (x0 : List (List Int)) (hb : ∀ p ∈ x0, Bytes p ∧ p.length ≤ 140737488351232) (hl : x0.length ≤ 140737488351232) : Ev (fun k => tally_Check.f k x0) (65535 - S x0.flatten) := by
  unfold tally_Check.f
  refine Ev.bind (sum_ev x0 hb hl) (ev_eq fun k => ?_)
  have h := S_R (flat_bytes hb)
  unfold R at h
  rw [w16 (by omega) (by omega)]
theorem one_part {p : List Int} (hp : Bytes p) (hl : p.length ≤ 140737488351232) : ∀ q ∈ [p], Bytes q ∧ q.length ≤ 140737488351232 := by
  intro q hq; simp only [List.mem_singleton] at hq; subst hq; exact ⟨hp, hl⟩
theorem sum1_ev {p : List Int} (hp : Bytes p) (hl : p.length ≤ 140737488351232) : Ev (fun k => tally_Sum.f k [p]) (S p) := by
  have h := sum_ev [p] (one_part hp hl) (by simp)
  simpa using h
theorem check1_ev {p : List Int} (hp : Bytes p) (hl : p.length ≤ 140737488351232) : Ev (fun k => tally_Check.f k [p]) (65535 - S p) := by
  have h := check_ev [p] (one_part hp hl) (by simp)
  simpa using h
theorem awake_ev : Ev (fun k => crosswaylaw02_awake.f k) true := Ev.of (fun k => crosswaylaw02_awake.mono k) (k := 80) (by decide +kernel)
theorem R_of_wf {a : Int} (h : (Lit.int .u16 a).wf = true) : R a := by
  have := h
  simp [Lit.wf, IntKind.min, IntKind.max, IntKind.signed, IntKind.bits] at this
  exact this
theorem byte_of_wf {a : Int} (h : (Lit.int .u8 a).wf = true) : 0 ≤ a ∧ a ≤ 255 := by
  have := h
  simp [Lit.wf, IntKind.min, IntKind.max, IntKind.signed, IntKind.bits] at this
  exact this
theorem i64_of_wf {a : Int} (h : (Lit.int .i64 a).wf = true) : -9223372036854775808 ≤ a ∧ a ≤ 9223372036854775807 := by
  have := h
  simp [Lit.wf, IntKind.min, IntKind.max, IntKind.signed, IntKind.bits] at this
  exact this
theorem bytes_of_wf {l : List Int} (h : ∀ x ∈ l, (Lit.int .u8 x).wf = true) : Bytes l := fun x hx => byte_of_wf (h x hx)
/-- The place that 'word' names, if there is one: even, with a whole word behind it. -/
theorem word_eq {l : List Int} {a : Int} (hl : l.length ≤ 140737488351232) (ha : -9223372036854775808 ≤ a ∧ a ≤ 9223372036854775807) :
    (l.length < 2 ∧ crosswaylaw02_word.f l a = some (0, false)) ∨ ∃ k : Nat, k % 2 = 0 ∧ k + 1 < l.length ∧ crosswaylaw02_word.f l a = some ((k : Int), true) := by
  unfold crosswaylaw02_word.f
  have e : wrap64 ((l.length : Int) / 2) = (l.length : Int) / 2 := w64 (by omega) (by omega)
  rw [e]
  by_cases h : l.length < 2
  · exact .inl ⟨h, by rw [if_pos (by omega)]⟩
  · right
    have hn : 0 < (l.length : Int) / 2 := by omega
    rw [if_neg (by omega)]
    have key : ∀ b : Int, 0 ≤ b → ∃ k : Nat, k % 2 = 0 ∧ k + 1 < l.length ∧ wrap64 (Int.tmod b ((l.length : Int) / 2) * 2) = (k : Int) := by
      intro b hb
      have h0 : Int.tmod b ((l.length : Int) / 2) = b % ((l.length : Int) / 2) := Int.tmod_eq_emod_of_nonneg hb
      have h1 := Int.emod_nonneg b (show (l.length : Int) / 2 ≠ 0 by omega)
      have h2 := Int.emod_lt_of_pos b hn
      rw [h0]
      generalize b % ((l.length : Int) / 2) = m at h1 h2
      refine ⟨m.toNat * 2, by omega, by omega, ?_⟩
      rw [w64 (by omega) (by omega)]; omega
    by_cases hneg : a < 0
    · rw [if_pos hneg, w64 (n := a + 1) (by omega) (by omega), w64 (n := -(a + 1)) (by omega) (by omega)]
      obtain ⟨k, h1, h2, h3⟩ := key (-(a + 1)) (by omega)
      exact ⟨k, h1, h2, by rw [h3]⟩
    · rw [if_neg hneg]
      obtain ⟨k, h1, h2, h3⟩ := key a (by omega)
      exact ⟨k, h1, h2, by rw [h3]⟩
theorem split_at {l : List Int} {k : Nat} (h : k + 1 < l.length) : l = l.take k ++ l[k] :: l[k + 1] :: l.drop (k + 2) := by
  rw [show k + 2 = k + 1 + 1 from rfl, ← List.drop_eq_getElem_cons (show k + 1 < l.length from h), ← List.drop_eq_getElem_cons (show k < l.length by omega), List.take_append_drop]
/-- Bytes with a word at a place. -/
theorem copied_eq {l : List Int} {k : Nat} {w : Int} (hl : l.length ≤ 140737488351232) (h : k + 1 < l.length) (hw : R w) :
    crosswaylaw02_copied.f l (k : Int) w = some (l.take k ++ w / 256 :: w % 256 :: l.drop (k + 2)) := by
  unfold R at hw
  unfold crosswaylaw02_copied.f
  have e1 : wrap64 ((k : Int) + 1) = ((k + 1 : Nat) : Int) := by rw [w64 (by omega) (by omega)]; omega
  have e2 : IntKind.u16.wrap (Int.tdiv w 256) % 256 = w / 256 := by
    rw [Int.tdiv_eq_ediv_of_nonneg (by omega), w16 (by omega) (by omega)]; omega
  have e3 : Int.tmod w 256 % 256 = w % 256 := by
    rw [Int.tmod_eq_emod_of_nonneg (by omega)]; omega
  rw [if_pos (by simp only [List.length_nil]; omega), Option.bind_some, List.nil_append, e1, e2, e3, if_pos (by omega), if_pos (by omega), if_pos (by omega), if_pos (by omega)]
  congr 1
  rw [Int.toNat_natCast, Int.toNat_natCast]
  apply List.ext_getElem?
  intro i
  have h0 : (l.take k).length = k := by simp; omega
  by_cases c1 : i < k
  · rw [List.getElem?_set_ne (by omega), List.getElem?_set_ne (by omega), List.getElem?_append_left (by omega), List.getElem?_take, if_pos c1]
  · rw [List.getElem?_append_right (by omega), h0]
    by_cases c2 : i = k
    · subst c2
      rw [List.getElem?_set_ne (by omega), List.getElem?_set_self (by omega)]; simp
    · by_cases c3 : i = k + 1
      · subst c3
        rw [List.getElem?_set_self (by simp; omega)]; simp [show k + 1 - k = 1 by omega]
      · rw [List.getElem?_set_ne (by omega), List.getElem?_set_ne (by omega)]
        obtain ⟨j, rfl⟩ : ∃ j, i = k + 2 + j := ⟨i - k - 2, by omega⟩
        rw [show k + 2 + j - k = j + 2 by omega]; simp
theorem copied_bytes {l : List Int} {k : Nat} {w : Int} (hb : Bytes l) (hw : R w) : Bytes (l.take k ++ w / 256 :: w % 256 :: l.drop (k + 2)) := by
  unfold R at hw
  exact (hb.take k).append (Bytes.cons (by omega) (Bytes.cons (by omega) (hb.drop _)))
theorem copied_length {l : List Int} {k : Nat} {w : Int} (h : k + 1 < l.length) : (l.take k ++ w / 256 :: w % 256 :: l.drop (k + 2)).length = l.length := by
  simp; omega
theorem copied_S {l : List Int} {k : Nat} {w : Int} (hb : Bytes l) (h : k + 1 < l.length) (hk : k % 2 = 0) (hw : R w) :
    S (l.take k ++ w / 256 :: w % 256 :: l.drop (k + 2)) = oadd (oadd (S (l.take k)) (S (l.drop (k + 2)))) w := by
  unfold R at hw
  rw [S_word (by rw [List.length_take, Nat.min_eq_left (by omega)]; exact hk) (hb.take k) (hb.drop _) (by omega) (by omega)]
  congr 1; omega
theorem TallyCompletes (l : List Int) (a : Int) (hl : l.length * 1 ≤ 140737488351232) (hb : ∀ x ∈ l, (Lit.int .u8 x).wf = true) (ha : (Lit.int .i64 a).wf = true) : ∃ k, crosswaylaw02_TallyCompletes.f k l a = some true := by
  have hb := bytes_of_wf hb
  have ha := i64_of_wf ha
  rw [Nat.mul_one] at hl
  refine Ev.rounds (r := true) ?_
  unfold crosswaylaw02_TallyCompletes.f
  refine Ev.bind awake_ev ?_
  rcases word_eq hl ha with ⟨_, e⟩ | ⟨k, hk, hlt, e⟩
  · refine ev_bind e (ev_eq fun n => ?_)
    rfl
  · refine ev_bind e (ev_pos rfl (ev_bind (copied_eq hl hlt R_zero) (Ev.bind (check1_ev (copied_bytes hb R_zero) (by rw [copied_length hlt]; exact hl)) (ev_pos rfl ?_))))
    rw [copied_S hb hlt hk R_zero]
    have r0 : R (oadd (S (l.take k)) (S (l.drop (k + 2)))) := oadd_R (S_R (hb.take k)) (S_R (hb.drop _))
    rw [oadd_zero r0]
    refine ev_bind (copied_eq hl hlt (R_compl r0)) (Ev.bind (sum1_ev (copied_bytes hb (R_compl r0)) (by rw [copied_length hlt]; exact hl)) (ev_eq fun n => ?_))
    rw [copied_S hb hlt hk (R_compl r0), oadd_compl r0]; rfl

end Go.Proofs.Ytgloieofdnpggaa.Pure
