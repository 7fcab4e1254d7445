/-
  The pure law TallyMends: a check is mended as the document says; for all numbers of sixteen bits.
-/
import Derived.Test.YtgloieofdnpggaaPTallyMendsx3
import Derived.Test.YtgloieofdnpggaaMTally
namespace Go.Proofs.Ytgloieofdnpggaa.Pure
open Go.RowKit Go.Proofs.Ytgloieofdnpggaa.PTallyMends Go.Proofs.YtgloieofdnpggaaW.PrintWords Go.Proofs.YtgloieofdnpggaaW.PrintLast Go.Proofs.Ytgloieofdnpggaa.MTally
/-! What the printed functions of tally and of the reference come to. -/
theorem w64 {n : Int} (h0 : -9223372036854775808 ≤ n) (h1 : n ≤ 9223372036854775807) : wrap64 n = n := by unfold wrap64; omega
theorem w16 {n : Int} (h0 : 0 ≤ n) (h1 : n ≤ 65535) : IntKind.u16.wrap n = n := by
  simp only [IntKind.wrap, IntKind.signed, IntKind.bits, Bool.false_and, Bool.false_eq_true, if_false]; omega
theorem w16' (n : Int) : IntKind.u16.wrap n = n % 65536 := by
  simp only [IntKind.wrap, IntKind.signed, IntKind.bits, Bool.false_and, Bool.false_eq_true, if_false]; rfl
theorem ev_pos {α : Type} {c : Prop} [Decidable c] {f g : Nat → Option α} {r : α} (hc : c) (h : Ev f r) : Ev (fun k => if c then f k else g k) r := by
  simp only [if_pos hc]; exact h
theorem ev_neg {α : Type} {c : Prop} [Decidable c] {f g : Nat → Option α} {r : α} (hc : ¬ c) (h : Ev g r) : Ev (fun k => if c then f k else g k) r := by
  simp only [if_neg hc]; exact h
theorem ev_eq {α : Type} {f : Nat → Option α} {r : α} (h : ∀ k, f k = some r) : Ev f r := ⟨0, fun k _ => h k⟩
theorem ev_bind {α β : Type} {o : Option α} {f : Nat → α → Option β} {a : α} {r : β} (h : o = some a) (k : Ev (fun n => f n a) r) : Ev (fun n => o.bind (f n)) r := by
  subst h; exact k
theorem add_eq {a b : Int} (ha : R a) (hb : R b) : tally_Add.f a b = some (oadd a b) := by
  unfold R at ha hb
  unfold tally_Add.f oadd
  rw [w16']
  congr 1
  split <;> omega
theorem upd_eq {a b c : Int} (ha : R a) (hb : R b) (hc : R c) : tally_Update.f a b c = some (65535 - oadd (oadd (65535 - a) (65535 - b)) c) := by
  have h := oadd_R (oadd_R (R_compl ha) (R_compl hb)) hc
  unfold tally_Update.f
  unfold R at ha hb hc h
  rw [w16 (n := 65535 - a) (by omega) (by omega), w16 (n := 65535 - b) (by omega) (by omega), add_eq (R_compl ha) (R_compl hb)]
  simp only [Option.bind_some]
  rw [add_eq (oadd_R (R_compl ha) (R_compl hb)) hc]
  simp only [Option.bind_some]
  rw [w16 (by omega) (by omega)]
theorem rd_at {xs : List Int} {i : Nat} (h : i < xs.length) : rd xs (i : Int) = xs[i] := by
  simp [rd, List.getElem?_eq_getElem h]
theorem byte_at {xs : List Int} (hb : Bytes xs) {i : Nat} (h : i < xs.length) : 0 ≤ xs[i] ∧ xs[i] ≤ 255 := hb _ (List.getElem_mem h)
/-- A toggled flag. -/
def tog (hi : Bool) (d : Nat) : Bool := if d % 2 = 0 then hi else !hi
theorem tog_succ (hi : Bool) (d : Nat) : tog (!hi) d = tog hi (d + 1) := by
  unfold tog
  by_cases h : d % 2 = 0
  · rw [if_pos h, if_neg (by omega)]
  · rw [if_neg h, if_pos (by omega)]; cases hi <;> rfl
theorem sum_l1 (x0 : List (List Int)) (len j r : Int) (row : List Int) (hb : Bytes row) (hl : row.length ≤ 140737488351232) : ∀ (d i : Nat) (n : Int) (hi : Bool), row.length = i + d → R n →
    Ev (fun k => tally_Sum.l0 k x0 (sumB n hi (row.drop i)) (tog hi d) len (wrap64 (j + 1))) r →
    Ev (fun k => tally_Sum.l1 k x0 n hi len j row (row.length : Int) (i : Int)) r := by
  intro d
  induction d with
  | zero =>
    intro i n hi he hn h
    refine Ev.step (f := fun k => tally_Sum.l0 k x0 n hi len (wrap64 (j + 1))) (fun k => ?_) ?_
    · simp only [tally_Sum.l1]; rw [if_neg (by omega)]
    · have e : row.drop i = [] := List.drop_eq_nil_of_le (by omega)
      rw [e] at h; exact h
  | succ d ih =>
    intro i n hi he hn h
    have hlt : i < row.length := by omega
    have hc := byte_at hb hlt
    have ed : row.drop i = row[i] :: row.drop (i + 1) := List.drop_eq_getElem_cons hlt
    rw [ed] at h
    have hw : wrap64 ((i : Int) + 1) = ((i + 1 : Nat) : Int) := by rw [w64 (by omega) (by omega)]; omega
    cases hi with
    | true =>
      refine Ev.step (f := fun k => tally_Sum.l1 k x0 (oadd n (row[i] * 256)) false len j row (row.length : Int) ((i + 1 : Nat) : Int)) (fun k => ?_) ?_
      · simp only [tally_Sum.l1]
        rw [if_pos (by omega), if_pos (by omega), if_pos (by omega), if_pos trivial, rd_at hlt, w16 (n := row[i]) (by omega) (by omega), w16 (by omega) (by omega), add_eq hn (by unfold R; omega)]
        simp only [Option.bind_some, Bool.not_true]; rw [hw]
      · exact ih (i + 1) _ _ (by omega) (oadd_R hn (by unfold R; omega)) (by rw [show tog false d = tog true (d + 1) from tog_succ true d]; exact h)
    | false =>
      refine Ev.step (f := fun k => tally_Sum.l1 k x0 (oadd n row[i]) true len j row (row.length : Int) ((i + 1 : Nat) : Int)) (fun k => ?_) ?_
      · simp only [tally_Sum.l1]
        rw [if_pos (by omega), if_pos (by omega), if_pos (by omega), if_neg (by decide), rd_at hlt, w16 (n := row[i]) (by omega) (by omega), add_eq hn (by unfold R; omega)]
        simp only [Option.bind_some, Bool.not_false]; rw [hw]
      · exact ih (i + 1) _ _ (by omega) (oadd_R hn (by unfold R; omega)) (by rw [show tog true d = tog false (d + 1) from tog_succ false d]; exact h)
theorem sum_l0 (x0 : List (List Int)) (hb : ∀ p ∈ x0, Bytes p ∧ p.length ≤ 140737488351232) (hl : x0.length ≤ 140737488351232) : ∀ (d j : Nat) (n : Int) (hi : Bool), x0.length = j + d → R n →
    Ev (fun k => tally_Sum.l0 k x0 n hi (x0.length : Int) (j : Int)) (sumB n hi (x0.drop j).flatten) := by
  intro d
  induction d with
  | zero =>
    intro j n hi he hn
    have e : x0.drop j = [] := List.drop_eq_nil_of_le (by omega)
    rw [e]
    refine Ev.step (f := fun k => some n) (fun k => ?_) (Ev.now _)
    simp only [tally_Sum.l0]; rw [if_neg (by omega)]
  | succ d ih =>
    intro j n hi he hn
    have hlt : j < x0.length := by omega
    have ed : x0.drop j = x0[j] :: x0.drop (j + 1) := List.drop_eq_getElem_cons hlt
    have hr : rd_L1 x0 (j : Int) = x0[j] := by simp [rd_L1, List.getElem?_eq_getElem hlt]
    have hm := hb _ (List.getElem_mem hlt)
    have hw : wrap64 ((j : Int) + 1) = ((j + 1 : Nat) : Int) := by rw [w64 (by omega) (by omega)]; omega
    rw [ed, List.flatten_cons, sumB_append]
    refine Ev.step (f := fun k => tally_Sum.l1 k x0 n hi (x0.length : Int) (j : Int) x0[j] (x0[j].length : Int) ((0 : Nat) : Int)) (fun k => ?_) ?_
    · simp only [tally_Sum.l0]
      rw [if_pos (by omega), if_pos (by omega), if_pos (by omega), hr]; rfl
    · refine sum_l1 x0 _ _ _ _ hm.1 hm.2 x0[j].length 0 n hi (by omega) hn ?_
      rw [hw, List.drop_zero]
      exact ih (j + 1) _ _ (by omega) (sumB_R hn hm.1)
theorem sum_ev (x0 : List (List Int)) (hb : ∀ p ∈ x0, Bytes p ∧ p.length ≤ 140737488351232) (hl : x0.length ≤ 140737488351232) : Ev (fun k => tally_Sum.f k x0) (S x0.flatten) := by
  have h := sum_l0 x0 hb hl x0.length 0 0 true (by omega) R_zero
  have hf : Bytes x0.flatten := fun y hy => by
    obtain ⟨p, hp, hy⟩ := List.mem_flatten.1 hy
    exact (hb p hp).1 y hy
  rw [List.drop_zero, sumB_S hf] at h
  exact h
theorem flat_bytes {x0 : List (List Int)} (hb : ∀ p ∈ x0, Bytes p ∧ p.length ≤ 140737488351232) : Bytes x0.flatten := fun y hy => by
  obtain ⟨p, hp, hy⟩ := List.mem_flatten.1 hy
  exact (hb p hp).1 y hy
theorem check_ev (x0 : List (List Int)) (hb : ∀ p ∈ x0, Bytes p ∧ p.length ≤ 140737488351232) (hl : x0.length ≤ 140737488351232) : Ev (fun k => tally_Check.f k x0) (65535 - S x0.flatten) := by
  unfold tally_Check.f
  refine Ev.bind (sum_ev x0 hb hl) (ev_eq fun k => ?_)
  have h := S_R (flat_bytes hb)
  unfold R at h
  rw [w16 (by omega) (by omega)]
theorem one_part {p : List Int} (hp : Bytes p) (hl : p.length ≤ 140737488351232) : ∀ q ∈ [p], Bytes q ∧ q.length ≤ 140737488351232 := by
  intro q hq; simp only [List.mem_singleton] at hq; subst hq; exact ⟨hp, hl⟩
theorem sum1_ev {p : List Int} (hp : Bytes p) (hl : p.length ≤ 140737488351232) : Ev (fun k => tally_Sum.f k [p]) (S p) := by
  have h := sum_ev [p] (one_part hp hl) (by simp)
  simpa using h
theorem check1_ev {p : List Int} (hp : Bytes p) (hl : p.length ≤ 140737488351232) : Ev (fun k => tally_Check.f k [p]) (65535 - S p) := by
  have h := check_ev [p] (one_part hp hl) (by simp)
  simpa using h
theorem radd_eq {a b : Int} (ha : R a) (hb : R b) : crosswayref02_Add.f a b = some (oadd a b) := by
  unfold R at ha hb
  unfold crosswayref02_Add.f oadd
  rw [w64 (n := a) (by omega) (by omega), w64 (n := b) (by omega) (by omega), w64 (n := a + b) (by omega) (by omega)]
  by_cases h : a + b > 65535
  · rw [if_pos h, if_pos h, w64 (by omega) (by omega), w16 (by omega) (by omega)]
  · rw [if_neg h, if_neg h, w16 (by omega) (by omega)]
theorem awake_ev : Ev (fun k => crosswaylaw02_awake.f k) true := Ev.of (fun k => crosswaylaw02_awake.mono k) (k := 80) (by decide +kernel)
theorem R_of_wf {a : Int} (h : (Lit.int .u16 a).wf = true) : R a := by
  have := h
  simp [Lit.wf, IntKind.min, IntKind.max, IntKind.signed, IntKind.bits] at this
  exact this
theorem byte_of_wf {a : Int} (h : (Lit.int .u8 a).wf = true) : 0 ≤ a ∧ a ≤ 255 := by
  have := h
  simp [Lit.wf, IntKind.min, IntKind.max, IntKind.signed, IntKind.bits] at this
  exact this
theorem i64_of_wf {a : Int} (h : (Lit.int .i64 a).wf = true) : -9223372036854775808 ≤ a ∧ a ≤ 9223372036854775807 := by
  have := h
  simp [Lit.wf, IntKind.min, IntKind.max, IntKind.signed, IntKind.bits] at this
  exact this
theorem bytes_of_wf {l : List Int} (h : ∀ x ∈ l, (Lit.int .u8 x).wf = true) : Bytes l := fun x hx => byte_of_wf (h x hx)
theorem TallyMends : crosswaylaw02_TallyMends.Pure := by
  intro a b c ha hb hc
  have ra := R_of_wf ha
  have rb := R_of_wf hb
  have rc := R_of_wf hc
  have h := oadd_R (oadd_R (R_compl ra) (R_compl rb)) rc
  refine Ev.rounds (r := true) ?_
  unfold crosswaylaw02_TallyMends.f
  refine Ev.bind awake_ev (ev_eq fun k => ?_)
  rw [if_pos rfl, upd_eq ra rb rc, Option.bind_some]
  unfold crosswayref02_Update.f
  have ea : IntKind.u16.wrap (65535 - a) = 65535 - a := w16 (R_compl ra).1 (R_compl ra).2
  have eb : IntKind.u16.wrap (65535 - b) = 65535 - b := w16 (R_compl rb).1 (R_compl rb).2
  have h2 := R_compl h
  rw [ea, eb, radd_eq (R_compl ra) (R_compl rb), Option.bind_some, radd_eq rc (oadd_R (R_compl ra) (R_compl rb)), Option.bind_some, Option.bind_some,
    oadd_comm c, w16 h2.1 h2.2]
  simp

end Go.Proofs.Ytgloieofdnpggaa.Pure
