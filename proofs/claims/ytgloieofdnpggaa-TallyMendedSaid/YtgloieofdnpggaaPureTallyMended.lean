/-
  The law TallyMended: the check of bytes of which one word was changed is the old one, mended, but where nothing but noughts is left; for any bytes, place and word: the mathematics, joined with the walk.
-/
import Derived.Test.YtgloieofdnpggaaWTallyMended
import Derived.Test.YtgloieofdnpggaaMTally
set_option linter.unusedVariables false
set_option linter.unusedSimpArgs false
namespace Go.Proofs.Ytgloieofdnpggaa.Pure
open Go.RowKit Go.Proofs.Ytgloieofdnpggaa.PTallyMended Go.Proofs.YtgloieofdnpggaaW.PrintWords Go.Proofs.YtgloieofdnpggaaW.PrintLast Go.Proofs.Ytgloieofdnpggaa.MTally
/-! What the printed functions of tally and of the reference come to. -/
theorem w64 {n : Int} (h0 : -9223372036854775808 ≤ n) (h1 : n ≤ 9223372036854775807) : wrap64 n = n := by unfold wrap64; omega
theorem w16 {n : Int} (h0 : 0 ≤ n) (h1 : n ≤ 65535) : IntKind.u16.wrap n = n := by
  simp only [IntKind.wrap, IntKind.signed, IntKind.bits, Bool.false_and, Bool.false_eq_true, if_false]; omega
theorem w16' (n : Int) : IntKind.u16.wrap n = n % 65536 := by
  simp only [IntKind.wrap, IntKind.signed, IntKind.bits, Bool.false_and, Bool.false_eq_true, if_false]; rfl
theorem ev_pos {α : Type} {c : Prop} [Decidable c] {f g : Nat → Option α} {r : α} (hc : c) (h : Ev f r) : Ev (fun k => if c then f k else g k) r := by
  simp only [if_pos hc]; exact h
theorem ev_neg {α : Type} {c : Prop} [Decidable c] {f g : Nat → Option α} {r : α} (hc : ¬ c) (h : Ev g r) : Ev (fun k => if c then f k else g k) r := by
  simp only [if_neg hc]; exact h
theorem ev_eq {α : Type} {f : Nat → Option α} {r : α} (h : ∀ k, f k = some r) : Ev f r := ⟨0, fun k _ => h k⟩
theorem ev_bind {α β : Type} {o : Option α} {f : Nat → α → Option β} {a : α} {r : β} (h : o = some a) (k : Ev (fun n => f n a) r) : Ev (fun n => o.bind (f n)) r := by
  subst h; exact k
theorem add_eq {a b : Int} (ha : R a) (hb : R b) : tally_Add.f a b = some (oadd a b) := by
  unfold R at ha hb
  unfold tally_Add.f oadd
  rw [w16']
  congr 1
  split <;> omega
theorem upd_eq {a b c : Int} (ha : R a) (hb : R b) (hc : R c) : tally_Update.f a b c = some (65535 - oadd (oadd (65535 - a) (65535 - b)) c) := by
  have h := oadd_R (oadd_R (R_compl ha) (R_compl hb)) hc
  unfold tally_Update.f
  unfold R at ha hb hc h
  rw [w16 (n := 65535 - a) (by omega) (by omega), w16 (n := 65535 - b) (by omega) (by omega), add_eq (R_compl ha) (R_compl hb)]
  simp only [Option.bind_some]
  rw [add_eq (oadd_R (R_compl ha) (R_compl hb)) hc]
  simp only [Option.bind_some]
  rw [w16 (by omega) (by omega)]
theorem rd_at {xs : List Int} {i : Nat} (h : i < xs.length) : rd xs (i : Int) = xs[i] := by
  simp [rd, List.getElem?_eq_getElem h]
theorem byte_at {xs : List Int} (hb : Bytes xs) {i : Nat} (h : i < xs.length) : 0 ≤ xs[i] ∧ xs[i] ≤ 255 := hb _ (List.getElem_mem h)
/-- A toggled flag. -/
def tog (hi : Bool) (d : Nat) : Bool := if d % 2 = 0 then hi else !hi
theorem tog_succ (hi : Bool) (d : Nat) : tog (!hi) d = tog hi (d + 1) := by
  unfold tog
  by_cases h : d % 2 = 0
  · rw [if_pos h, if_neg (by omega)]
  · rw [if_neg h, if_pos (by omega)]; cases hi <;> rfl
theorem sum_l1 (x0 : List (List Int)) (len j r : Int) (row : List Int) (hb : Bytes row) (hl : row.length ≤ 140737488351232) : ∀ (d i : Nat) (n : Int) (hi : Bool), row.length = i + d → R n →
    Ev (fun k => tally_Sum.l0 k x0 (sumB n hi (row.drop i)) (tog hi d) len (wrap64 (j + 1))) r →
    Ev (fun k => tally_Sum.l1 k x0 n hi len j row (row.length : Int) (i : Int)) r := by
  intro d
  induction d with
  | zero =>
    intro i n hi he hn h
    refine Ev.step (f := fun k => tally_Sum.l0 k x0 n hi len (wrap64 (j + 1))) (fun k => ?_) ?_
    · simp only [tally_Sum.l1]; rw [if_neg (by omega)]
    · have e : row.drop i = [] := List.drop_eq_nil_of_le (by omega)
      rw [e] at h; exact h
  | succ d ih =>
    intro i n hi he hn h
    have hlt : i < row.length := by omega
    have hc := byte_at hb hlt
    have ed : row.drop i = row[i] :: row.drop (i + 1) := List.drop_eq_getElem_cons hlt
    rw [ed] at h
    have hw : wrap64 ((i : Int) + 1) = ((i + 1 : Nat) : Int) := by rw [w64 (by omega) (by omega)]; omega
    cases hi with
    | true =>
      refine Ev.step (f := fun k => tally_Sum.l1 k x0 (oadd n (row[i] * 256)) false len j row (row.length : Int) ((i + 1 : Nat) : Int)) (fun k => ?_) ?_
      · simp only [tally_Sum.l1]
        rw [if_pos (by omega), if_pos (by omega), if_pos (by omega), if_pos trivial, rd_at hlt, w16 (n := row[i]) (by omega) (by omega), w16 (by omega) (by omega), add_eq hn (by unfold R; omega)]
        simp only [Option.bind_some, Bool.not_true]; rw [hw]
      · exact ih (i + 1) _ _ (by omega) (oadd_R hn (by unfold R; omega)) (by rw [show tog false d = tog true (d + 1) from tog_succ true d]; exact h)
    | false =>
      refine Ev.step (f := fun k => tally_Sum.l1 k x0 (oadd n row[i]) true len j row (row.length : Int) ((i + 1 : Nat) : Int)) (fun k => ?_) ?_
      · simp only [tally_Sum.l1]
        rw [if_pos (by omega), if_pos (by omega), if_pos (by omega), if_neg (by decide), rd_at hlt, w16 (n := row[i]) (by omega) (by omega), add_eq hn (by unfold R; omega)]
        simp only [Option.bind_some, Bool.not_false]; rw [hw]
      · exact ih (i + 1) _ _ (by omega) (oadd_R hn (by unfold R; omega)) (by rw [show tog true d = tog false (d + 1) from tog_succ false d]; exact h)
theorem sum_l0 (x0 : List (List Int)) (hb : ∀ p ∈ x0, Bytes p ∧ p.length ≤ 140737488351232) (hl : x0.length ≤ 140737488351232) : ∀ (d j : Nat) (n : Int) (hi : Bool), x0.length = j + d → R n →
    Ev (fun k => tally_Sum.l0 k x0 n hi (x0.length : Int) (j : Int)) (sumB n hi (x0.drop j).flatten) := by
  intro d
  induction d with
  | zero =>
    intro j n hi he hn
    have e : x0.drop j = [] := List.drop_eq_nil_of_le (by omega)
    rw [e]
    refine Ev.step (f := fun k => some n) (fun k => ?_) (Ev.now _)
    simp only [tally_Sum.l0]; rw [if_neg (by omega)]
  | succ d ih =>
    intro j n hi he hn
    have hlt : j < x0.length := by omega
    have ed : x0.drop j = x0[j] :: x0.drop (j + 1) := List.drop_eq_getElem_cons hlt
    have hr : rd_L1 x0 (j : Int) = x0[j] := by simp [rd_L1, List.getElem?_eq_getElem hlt]
    have hm := hb _ (List.getElem_mem hlt)
    have hw : wrap64 ((j : Int) + 1) = ((j + 1 : Nat) : Int) := by rw [w64 (by omega) (by omega)]; omega
    rw [ed, List.flatten_cons, sumB_append]
    refine Ev.step (f := fun k => tally_Sum.l1 k x0 n hi (x0.length : Int) (j : Int) x0[j] (x0[j].length : Int) ((0 : Nat) : Int)) (fun k => ?_) ?_
    · simp only [tally_Sum.l0]
      rw [if_pos (by omega), if_pos (by omega), if_pos (by omega), hr]; rfl
    · refine sum_l1 x0 _ _ _ _ hm.1 hm.2 x0[j].length 0 n hi (by omega) hn ?_
      rw [hw, List.drop_zero]
      exact ih (j + 1) _ _ (by omega) (sumB_R hn hm.1)
theorem sum_ev (x0 : List (List Int)) (hb : ∀ p ∈ x0, Bytes p ∧ p.length ≤ 140737488351232) (hl : x0.length ≤ 140737488351232) : Ev (fun k => tally_Sum.f k x0) (S x0.flatten) := by
  have h := sum_l0 x0 hb hl x0.length 0 0 true (by omega) R_zero
  have hf : Bytes x0.flatten := fun y hy => by
    obtain ⟨p, hp, hy⟩ := List.mem_flatten.1 hy
    exact (hb p hp).1 y hy
  rw [List.drop_zero, sumB_S hf] at h
  exact h
theorem flat_bytes {x0 : List (List Int)} (hb : ∀ p ∈ x0, Bytes p ∧ p.length ≤ 140737488351232) : Bytes x0.flatten := fun y hy => by
  obtain ⟨p, hp, hy⟩ := List.mem_flatten.1 hy
  exact (hb p hp).1 y hy
theorem check_ev (x0 : List (List Int)) (hb : ∀ p ∈ x0, Bytes p ∧ p.length ≤ 140737488351232) (hl : x0.length ≤ 140737488351232) : Ev (fun k => tally_Check.f k x0) (65535 - S x0.flatten) := by
  unfold tally_Check.f
  refine Ev.bind (sum_ev x0 hb hl) (ev_eq fun k => ?_)
  have h := S_R (flat_bytes hb)
  unfold R at h
  rw [w16 (by omega) (by omega)]
theorem one_part {p : List Int} (hp : Bytes p) (hl : p.length ≤ 140737488351232) : ∀ q ∈ [p], Bytes q ∧ q.length ≤ 140737488351232 := by
  intro q hq; simp only [List.mem_singleton] at hq; subst hq; exact ⟨hp, hl⟩
theorem sum1_ev {p : List Int} (hp : Bytes p) (hl : p.length ≤ 140737488351232) : Ev (fun k => tally_Sum.f k [p]) (S p) := by
  have h := sum_ev [p] (one_part hp hl) (by simp)
  simpa using h
theorem check1_ev {p : List Int} (hp : Bytes p) (hl : p.length ≤ 140737488351232) : Ev (fun k => tally_Check.f k [p]) (65535 - S p) := by
  have h := check_ev [p] (one_part hp hl) (by simp)
  simpa using h
theorem awake_ev : Ev (fun k => crosswaylaw02_awake.f k) true := Ev.of (fun k => crosswaylaw02_awake.mono k) (k := 80) (by decide +kernel)
theorem R_of_wf {a : Int} (h : (Lit.int .u16 a).wf = true) : R a := by
  have := h
  simp [Lit.wf, IntKind.min, IntKind.max, IntKind.signed, IntKind.bits] at this
  exact this
theorem byte_of_wf {a : Int} (h : (Lit.int .u8 a).wf = true) : 0 ≤ a ∧ a ≤ 255 := by
  have := h
  simp [Lit.wf, IntKind.min, IntKind.max, IntKind.signed, IntKind.bits] at this
  exact this
theorem i64_of_wf {a : Int} (h : (Lit.int .i64 a).wf = true) : -9223372036854775808 ≤ a ∧ a ≤ 9223372036854775807 := by
  have := h
  simp [Lit.wf, IntKind.min, IntKind.max, IntKind.signed, IntKind.bits] at this
  exact this
theorem bytes_of_wf {l : List Int} (h : ∀ x ∈ l, (Lit.int .u8 x).wf = true) : Bytes l := fun x hx => byte_of_wf (h x hx)
/-- The place that 'word' names, if there is one: even, with a whole word behind it. -/
theorem word_eq {l : List Int} {a : Int} (hl : l.length ≤ 140737488351232) (ha : -9223372036854775808 ≤ a ∧ a ≤ 9223372036854775807) :
    (l.length < 2 ∧ crosswaylaw02_word.f l a = some (0, false)) ∨ ∃ k : Nat, k % 2 = 0 ∧ k + 1 < l.length ∧ crosswaylaw02_word.f l a = some ((k : Int), true) := by
  unfold crosswaylaw02_word.f
  have e : wrap64 ((l.length : Int) / 2) = (l.length : Int) / 2 := w64 (by omega) (by omega)
  rw [e]
  by_cases h : l.length < 2
  · exact .inl ⟨h, by rw [if_pos (by omega)]⟩
  · right
    have hn : 0 < (l.length : Int) / 2 := by omega
    rw [if_neg (by omega)]
    have key : ∀ b : Int, 0 ≤ b → ∃ k : Nat, k % 2 = 0 ∧ k + 1 < l.length ∧ wrap64 (Int.tmod b ((l.length : Int) / 2) * 2) = (k : Int) := by
      intro b hb
      have h0 : Int.tmod b ((l.length : Int) / 2) = b % ((l.length : Int) / 2) := Int.tmod_eq_emod_of_nonneg hb
      have h1 := Int.emod_nonneg b (show (l.length : Int) / 2 ≠ 0 by omega)
      have h2 := Int.emod_lt_of_pos b hn
      rw [h0]
      generalize b % ((l.length : Int) / 2) = m at h1 h2
      refine ⟨m.toNat * 2, by omega, by omega, ?_⟩
      rw [w64 (by omega) (by omega)]; omega
    by_cases hneg : a < 0
    · rw [if_pos hneg, w64 (n := a + 1) (by omega) (by omega), w64 (n := -(a + 1)) (by omega) (by omega)]
      obtain ⟨k, h1, h2, h3⟩ := key (-(a + 1)) (by omega)
      exact ⟨k, h1, h2, by rw [h3]⟩
    · rw [if_neg hneg]
      obtain ⟨k, h1, h2, h3⟩ := key a (by omega)
      exact ⟨k, h1, h2, by rw [h3]⟩
theorem split_at {l : List Int} {k : Nat} (h : k + 1 < l.length) : l = l.take k ++ l[k] :: l[k + 1] :: l.drop (k + 2) := by
  rw [show k + 2 = k + 1 + 1 from rfl, ← List.drop_eq_getElem_cons (show k + 1 < l.length from h), ← List.drop_eq_getElem_cons (show k < l.length by omega), List.take_append_drop]
/-- Bytes with a word at a place. -/
theorem copied_eq {l : List Int} {k : Nat} {w : Int} (hl : l.length ≤ 140737488351232) (h : k + 1 < l.length) (hw : R w) :
    crosswaylaw02_copied.f l (k : Int) w = some (l.take k ++ w / 256 :: w % 256 :: l.drop (k + 2)) := by
  unfold R at hw
  unfold crosswaylaw02_copied.f
  have e1 : wrap64 ((k : Int) + 1) = ((k + 1 : Nat) : Int) := by rw [w64 (by omega) (by omega)]; omega
  have e2 : IntKind.u16.wrap (Int.tdiv w 256) % 256 = w / 256 := by
    rw [Int.tdiv_eq_ediv_of_nonneg (by omega), w16 (by omega) (by omega)]; omega
  have e3 : Int.tmod w 256 % 256 = w % 256 := by
    rw [Int.tmod_eq_emod_of_nonneg (by omega)]; omega
  rw [if_pos (by simp only [List.length_nil]; omega), Option.bind_some, List.nil_append, e1, e2, e3, if_pos (by omega), if_pos (by omega), if_pos (by omega), if_pos (by omega)]
  congr 1
  rw [Int.toNat_natCast, Int.toNat_natCast]
  apply List.ext_getElem?
  intro i
  have h0 : (l.take k).length = k := by simp; omega
  by_cases c1 : i < k
  · rw [List.getElem?_set_ne (by omega), List.getElem?_set_ne (by omega), List.getElem?_append_left (by omega), List.getElem?_take, if_pos c1]
  · rw [List.getElem?_append_right (by omega), h0]
    by_cases c2 : i = k
    · subst c2
      rw [List.getElem?_set_ne (by omega), List.getElem?_set_self (by omega)]; simp
    · by_cases c3 : i = k + 1
      · subst c3
        rw [List.getElem?_set_self (by simp; omega)]; simp [show k + 1 - k = 1 by omega]
      · rw [List.getElem?_set_ne (by omega), List.getElem?_set_ne (by omega)]
        obtain ⟨j, rfl⟩ : ∃ j, i = k + 2 + j := ⟨i - k - 2, by omega⟩
        rw [show k + 2 + j - k = j + 2 by omega]; simp
theorem copied_bytes {l : List Int} {k : Nat} {w : Int} (hb : Bytes l) (hw : R w) : Bytes (l.take k ++ w / 256 :: w % 256 :: l.drop (k + 2)) := by
  unfold R at hw
  exact (hb.take k).append (Bytes.cons (by omega) (Bytes.cons (by omega) (hb.drop _)))
theorem copied_length {l : List Int} {k : Nat} {w : Int} (h : k + 1 < l.length) : (l.take k ++ w / 256 :: w % 256 :: l.drop (k + 2)).length = l.length := by
  simp; omega
theorem copied_S {l : List Int} {k : Nat} {w : Int} (hb : Bytes l) (h : k + 1 < l.length) (hk : k % 2 = 0) (hw : R w) :
    S (l.take k ++ w / 256 :: w % 256 :: l.drop (k + 2)) = oadd (oadd (S (l.take k)) (S (l.drop (k + 2)))) w := by
  unfold R at hw
  rw [S_word (by rw [List.length_take, Nat.min_eq_left (by omega)]; exact hk) (hb.take k) (hb.drop _) (by omega) (by omega)]
  congr 1; omega
theorem nought_l0 (l : List Int) (hl : l.length ≤ 140737488351232) : ∀ d i : Nat, l.length = i + d → Ev (fun k => crosswaylaw02_nought.l0 k l (i : Int)) ((l.drop i).all fun x => x == 0) := by
  intro d
  induction d with
  | zero =>
    intro i h
    rw [List.drop_eq_nil_of_le (by omega)]
    refine Ev.step (f := fun _ => some true) (fun k => ?_) (Ev.now _)
    simp only [crosswaylaw02_nought.l0]; rw [if_neg (by omega)]
  | succ d ih =>
    intro i h
    have hlt : i < l.length := by omega
    rw [List.drop_eq_getElem_cons hlt, List.all_cons]
    have hw : wrap64 ((i : Int) + 1) = ((i + 1 : Nat) : Int) := by rw [w64 (by omega) (by omega)]; omega
    by_cases hz : l[i] = 0
    · refine Ev.step (f := fun k => crosswaylaw02_nought.l0 k l ((i + 1 : Nat) : Int)) (fun k => ?_) ?_
      · simp only [crosswaylaw02_nought.l0]; rw [if_pos (by omega), if_pos (by omega), rd_at hlt, if_pos hz, hw]
      · rw [hz]; exact ih (i + 1) (by omega)
    · refine Ev.step (f := fun _ => some false) (fun k => ?_) ?_
      · simp only [crosswaylaw02_nought.l0]; rw [if_pos (by omega), if_pos (by omega), rd_at hlt, if_neg hz]
      · rw [beq_eq_false_iff_ne.2 hz]; exact Ev.now _
theorem mend {Q old now : Int} (hQ : R Q) (ho : R old) (hn : R now) (h : oadd Q now ≠ 0) : 65535 - oadd (oadd (65535 - (65535 - oadd Q old)) (65535 - old)) now = 65535 - oadd Q now := by
  have e : 65535 - (65535 - oadd Q old) = oadd Q old := by omega
  rw [e, oadd_assoc hQ ho (R_compl ho), oadd_compl ho]
  by_cases hz : Q = 0
  · subst hz
    rw [zero_oadd hn] at h
    rw [zero_oadd R_full, oadd_comm, oadd_full hn h, zero_oadd hn]
  · rw [oadd_full hQ hz]
theorem TallyMended (A0 : Option Addr) (c0 : Nat) (l : List Int) (a now : Int) (hl : l.length * 1 ≤ 140737488351232) (hb : ∀ x ∈ l, (Lit.int .u8 x).wf = true) (ha : (Lit.int .i64 a).wf = true) (hn : (Lit.int .u16 now).wf = true)
    (w : World) (hr0 : Kd.C (Kd.int .u8) w A0 l.length l) (hc0 : l.length ≤ c0) : Calls Try.prog 8 #[.slice A0 l.length c0, .int .i64 a, .int .u16 now] w fun e w' => e = .returned (.bool true) ∧ Below w.heap.size w w' := by
  have hb := bytes_of_wf hb
  have ha := i64_of_wf ha
  have rn := R_of_wf hn
  rw [Nat.mul_one] at hl
  obtain ⟨K1, E1⟩ := awake_ev
  rcases word_eq hl ha with ⟨_, e⟩ | ⟨k, hk, hlt, e⟩
  · exact WTallyMended.noword K1 A0 c0 l a now _ w hr0 hc0 (E1 K1 (Nat.le_refl _)) e
  · have e1 : wrap64 ((k : Int) + 1) = ((k + 1 : Nat) : Int) := by rw [w64 (by omega) (by omega)]; omega
    have cb := copied_bytes (k := k) hb rn
    have cl := copied_length (w := now) hlt
    have cs := copied_S hb hlt hk rn
    have ce := copied_eq hl hlt rn
    obtain ⟨K2, E2⟩ : Ev (fun n => crosswaylaw02_nought.f n _) _ := nought_l0 (l.take k ++ now / 256 :: now % 256 :: l.drop (k + 2)) (by omega) _ 0 (by rw [Nat.zero_add])
    rw [List.drop_zero] at E2
    cases hz : ((l.take k ++ now / 256 :: now % 256 :: l.drop (k + 2)).all fun x => x == 0)
    case true =>
      rw [hz] at E2
      exact WTallyMended.noughts (K1 + K2) A0 c0 l a now _ _ _ w hr0 hc0 (E1 _ (by omega)) e (by omega) (by omega) (by omega) (by omega) e1 ce (E2 _ (by omega))
    case false =>
      rw [hz] at E2
      have hS : S (l.take k ++ now / 256 :: now % 256 :: l.drop (k + 2)) ≠ 0 := fun h0 => by
        rw [List.all_eq_true.2 (fun x hx => by rw [(S_eq_zero cb).1 h0 x hx]; rfl)] at hz
        cases hz
      rw [cs] at hS
      have b0 := byte_at hb (show k < l.length by omega)
      have b1 := byte_at hb hlt
      have hold : S l = oadd (oadd (S (l.take k)) (S (l.drop (k + 2)))) (l[k] * 256 + l[k + 1]) := by
        conv => lhs; rw [split_at hlt]
        exact S_word (by rw [List.length_take, Nat.min_eq_left (by omega)]; exact hk) (hb.take k) (hb.drop _) b0 b1
      have ro : R (l[k] * 256 + l[k + 1]) := by unfold R; omega
      obtain ⟨K3, E3⟩ := check1_ev hb hl
      obtain ⟨K4, E4⟩ := check1_ev cb (by omega)
      have eu := upd_eq (R_compl (S_R hb)) ro rn
      rw [hold, mend (oadd_R (S_R (hb.take k)) (S_R (hb.drop _))) ro rn hS, ← cs] at eu
      rw [hold] at E3
      refine WTallyMended.main (K1 + K2 + K3 + K4) A0 c0 l a now _ _ _ _ _ w hr0 hc0 (E1 _ (by omega)) e (by omega) (by omega) (by omega) (by omega) e1 ce (E2 _ (by omega)) (E3 _ (by omega)) ?_ (E4 _ (by omega))
      rw [rd_at (show k < l.length by omega), rd_at hlt, w16 (n := l[k]) (by omega) (by omega), w16 (n := l[k + 1]) (by omega) (by omega), w16 (n := l[k] * 256) (by omega) (by omega), w16 (n := l[k] * 256 + l[k + 1]) (by omega) (by omega)]
      exact eu

end Go.Proofs.Ytgloieofdnpggaa.Pure
