/-
  Several texts in one. Conditions: those of each theorem.
-/
import Derived.Test.YtaoopneiglgnkaaDoorPBasex12
import Derived.Test.YtaoopneiglgnkaaDoorMTally
import Derived.Test.YtaoopneiglgnkaaDoorMBytes
import Derived.Laws.BitsLemmas
set_option linter.unusedVariables false
set_option linter.unusedSectionVars false
set_option linter.unusedSimpArgs false
namespace Go.Proofs.YtaoopneiglgnkaaDoor.PureT4
open Go.RowKit Go.Proofs.YtaoopneiglgnkaaDoor.PBase Go.Proofs.YtaoopneiglgnkaaDoorW.PrintWords Go.Proofs.YtaoopneiglgnkaaDoorW.PrintLast Go.Proofs.YtaoopneiglgnkaaDoorW.PrintMore Go.Proofs.YtaoopneiglgnkaaDoor.MTally Go.Proofs.YtaoopneiglgnkaaDoor.MBe
/-! What the printed functions of tally and of the reference come to. -/
theorem w64 {n : Int} (h0 : -9223372036854775808 ≤ n) (h1 : n ≤ 9223372036854775807) : wrap64 n = n := by unfold wrap64; omega
theorem w16 {n : Int} (h0 : 0 ≤ n) (h1 : n ≤ 65535) : IntKind.u16.wrap n = n := by
  simp only [IntKind.wrap, IntKind.signed, IntKind.bits, Bool.false_and, Bool.false_eq_true, if_false]; omega
theorem w16' (n : Int) : IntKind.u16.wrap n = n % 65536 := by
  simp only [IntKind.wrap, IntKind.signed, IntKind.bits, Bool.false_and, Bool.false_eq_true, if_false]; rfl
theorem ev_pos {α : Type} {c : Prop} [Decidable c] {f g : Nat → Option α} {r : α} (hc : c) (h : Ev f r) : Ev (fun k => if c then f k else g k) r := by
  simp only [if_pos hc]; exact h
theorem ev_neg {α : Type} {c : Prop} [Decidable c] {f g : Nat → Option α} {r : α} (hc : ¬ c) (h : Ev g r) : Ev (fun k => if c then f k else g k) r := by
  simp only [if_neg hc]; exact h
theorem ev_eq {α : Type} {f : Nat → Option α} {r : α} (h : ∀ k, f k = some r) : Ev f r := ⟨0, fun k _ => h k⟩
theorem ev_bind {α β : Type} {o : Option α} {f : Nat → α → Option β} {a : α} {r : β} (h : o = some a) (k : Ev (fun n => f n a) r) : Ev (fun n => o.bind (f n)) r := by
  subst h; exact k
theorem add_eq {a b : Int} (ha : R a) (hb : R b) : tally_Add.f a b = some (oadd a b) := by
  unfold R at ha hb
  unfold tally_Add.f oadd
  rw [w16']
  congr 1
  split <;> omega
theorem rd_at {xs : List Int} {i : Nat} (h : i < xs.length) : rd xs (i : Int) = xs[i] := by
  simp [rd, List.getElem?_eq_getElem h]
theorem byte_at {xs : List Int} (hb : Bytes xs) {i : Nat} (h : i < xs.length) : 0 ≤ xs[i] ∧ xs[i] ≤ 255 := hb _ (List.getElem_mem h)
/-- A toggled flag. -/
def tog (hi : Bool) (d : Nat) : Bool := if d % 2 = 0 then hi else !hi
theorem tog_succ (hi : Bool) (d : Nat) : tog (!hi) d = tog hi (d + 1) := by
  unfold tog
  by_cases h : d % 2 = 0
  · rw [if_pos h, if_neg (by omega)]
  · rw [if_neg h, if_pos (by omega)]; cases hi <;> rfl
theorem sum_l1 (x0 : List (List Int)) (len j r : Int) (row : List Int) (hb : Bytes row) (hl : row.length ≤ 140737488351232) : ∀ (d i : Nat) (n : Int) (hi : Bool), row.length = i + d → R n →
    Ev (fun k => tally_Sum.l0 k x0 (sumB n hi (row.drop i)) (tog hi d) len (wrap64 (j + 1))) r →
    Ev (fun k => tally_Sum.l1 k x0 n hi len j row (row.length : Int) (i : Int)) r := by
  intro d
  induction d with
  | zero =>
    intro i n hi he hn h
    refine Ev.step (f := fun k => tally_Sum.l0 k x0 n hi len (wrap64 (j + 1))) (fun k => ?_) ?_
    · simp only [tally_Sum.l1]; rw [if_neg (by omega)]
    · have e : row.drop i = [] := List.drop_eq_nil_of_le (by omega)
      rw [e] at h; exact h
  | succ d ih =>
    intro i n hi he hn h
    have hlt : i < row.length := by omega
    have hc := byte_at hb hlt
    have ed : row.drop i = row[i] :: row.drop (i + 1) := List.drop_eq_getElem_cons hlt
    rw [ed] at h
    have hw : wrap64 ((i : Int) + 1) = ((i + 1 : Nat) : Int) := by rw [w64 (by omega) (by omega)]; omega
    cases hi with
    | true =>
      refine Ev.step (f := fun k => tally_Sum.l1 k x0 (oadd n (row[i] * 256)) false len j row (row.length : Int) ((i + 1 : Nat) : Int)) (fun k => ?_) ?_
      · simp only [tally_Sum.l1]
        rw [if_pos (by omega), if_pos (by omega), if_pos (by omega), if_pos trivial, rd_at hlt, w16 (n := row[i]) (by omega) (by omega), w16 (by omega) (by omega), add_eq hn (by unfold R; omega)]
        simp only [Option.bind_some, Bool.not_true]; rw [hw]
      · exact ih (i + 1) _ _ (by omega) (oadd_R hn (by unfold R; omega)) (by rw [show tog false d = tog true (d + 1) from tog_succ true d]; exact h)
    | false =>
      refine Ev.step (f := fun k => tally_Sum.l1 k x0 (oadd n row[i]) true len j row (row.length : Int) ((i + 1 : Nat) : Int)) (fun k => ?_) ?_
      · simp only [tally_Sum.l1]
        rw [if_pos (by omega), if_pos (by omega), if_pos (by omega), if_neg (by decide), rd_at hlt, w16 (n := row[i]) (by omega) (by omega), add_eq hn (by unfold R; omega)]
        simp only [Option.bind_some, Bool.not_false]; rw [hw]
      · exact ih (i + 1) _ _ (by omega) (oadd_R hn (by unfold R; omega)) (by rw [show tog true d = tog false (d + 1) from tog_succ false d]; exact h)
theorem sum_l0 (x0 : List (List Int)) (hb : ∀ p ∈ x0, Bytes p ∧ p.length ≤ 140737488351232) (hl : x0.length ≤ 140737488351232) : ∀ (d j : Nat) (n : Int) (hi : Bool), x0.length = j + d → R n →
    Ev (fun k => tally_Sum.l0 k x0 n hi (x0.length : Int) (j : Int)) (sumB n hi (x0.drop j).flatten) := by
  intro d
  induction d with
  | zero =>
    intro j n hi he hn
    have e : x0.drop j = [] := List.drop_eq_nil_of_le (by omega)
    rw [e]
    refine Ev.step (f := fun k => some n) (fun k => ?_) (Ev.now _)
    simp only [tally_Sum.l0]; rw [if_neg (by omega)]
  | succ d ih =>
    intro j n hi he hn
    have hlt : j < x0.length := by omega
    have ed : x0.drop j = x0[j] :: x0.drop (j + 1) := List.drop_eq_getElem_cons hlt
    have hr : rd_L1 x0 (j : Int) = x0[j] := by simp [rd_L1, List.getElem?_eq_getElem hlt]
    have hm := hb _ (List.getElem_mem hlt)
    have hw : wrap64 ((j : Int) + 1) = ((j + 1 : Nat) : Int) := by rw [w64 (by omega) (by omega)]; omega
    rw [ed, List.flatten_cons, sumB_append]
    refine Ev.step (f := fun k => tally_Sum.l1 k x0 n hi (x0.length : Int) (j : Int) x0[j] (x0[j].length : Int) ((0 : Nat) : Int)) (fun k => ?_) ?_
    · simp only [tally_Sum.l0]
      rw [if_pos (by omega), if_pos (by omega), if_pos (by omega), hr]; rfl
    · refine sum_l1 x0 _ _ _ _ hm.1 hm.2 x0[j].length 0 n hi (by omega) hn ?_
      rw [hw, List.drop_zero]
      exact ih (j + 1) _ _ (by omega) (sumB_R hn hm.1)
theorem sum_ev (x0 : List (List Int)) (hb : ∀ p ∈ x0, Bytes p ∧ p.length ≤ 140737488351232) (hl : x0.length ≤ 140737488351232) : Ev (fun k => tally_Sum.f k x0) (S x0.flatten) := by
  have h := sum_l0 x0 hb hl x0.length 0 0 true (by omega) R_zero
  have hf : Bytes x0.flatten := fun y hy => by
    obtain ⟨p, hp, hy⟩ := List.mem_flatten.1 hy
    exact (hb p hp).1 y hy
  rw [List.drop_zero, sumB_S hf] at h
  exact h
theorem flat_bytes {x0 : List (List Int)} (hb : ∀ p ∈ x0, Bytes p ∧ p.length ≤ 140737488351232) : Bytes x0.flatten := fun y hy => by
  obtain ⟨p, hp, hy⟩ := List.mem_flatten.1 hy
  exact (hb p hp).1 y hy
theorem check_ev (x0 : List (List Int)) (hb : ∀ p ∈ x0, Bytes p ∧ p.length ≤ 140737488351232) (hl : x0.length ≤ 140737488351232) : Ev (fun k => tally_Check.f k x0) (65535 - S x0.flatten) := by
  unfold tally_Check.f
  refine Ev.bind (sum_ev x0 hb hl) (ev_eq fun k => ?_)
  have h := S_R (flat_bytes hb)
  unfold R at h
  rw [w16 (by omega) (by omega)]
theorem one_part {p : List Int} (hp : Bytes p) (hl : p.length ≤ 140737488351232) : ∀ q ∈ [p], Bytes q ∧ q.length ≤ 140737488351232 := by
  intro q hq; simp only [List.mem_singleton] at hq; subst hq; exact ⟨hp, hl⟩
theorem sum1_ev {p : List Int} (hp : Bytes p) (hl : p.length ≤ 140737488351232) : Ev (fun k => tally_Sum.f k [p]) (S p) := by
  have h := sum_ev [p] (one_part hp hl) (by simp)
  simpa using h
theorem check1_ev {p : List Int} (hp : Bytes p) (hl : p.length ≤ 140737488351232) : Ev (fun k => tally_Check.f k [p]) (65535 - S p) := by
  have h := check_ev [p] (one_part hp hl) (by simp)
  simpa using h
end Go.Proofs.YtaoopneiglgnkaaDoor.PureT4
namespace Go.Proofs.YtaoopneiglgnkaaDoor.Pure4
open Go.RowKit Go.Proofs.YtaoopneiglgnkaaDoor.PBase Go.Proofs.YtaoopneiglgnkaaDoorW.PrintWords Go.Proofs.YtaoopneiglgnkaaDoorW.PrintLast Go.Proofs.YtaoopneiglgnkaaDoorW.PrintMore Go.Proofs.YtaoopneiglgnkaaDoor.MTally Go.Proofs.YtaoopneiglgnkaaDoor.MBe
/-! Small steps for what printed functions come to. -/
theorem w64 {n : Int} (h0 : -9223372036854775808 ≤ n) (h1 : n ≤ 9223372036854775807) : wrap64 n = n := by unfold wrap64; omega
theorem wu64 {n : Int} (h0 : 0 ≤ n) (h1 : n < 18446744073709551616) : IntKind.u64.wrap n = n := by
  simp only [IntKind.wrap, IntKind.signed, IntKind.bits, Bool.false_and, Bool.false_eq_true, if_false]; omega
theorem wu64' (n : Int) : IntKind.u64.wrap n = n % 18446744073709551616 := by
  simp only [IntKind.wrap, IntKind.signed, IntKind.bits, Bool.false_and, Bool.false_eq_true, if_false]; rfl
theorem wu32 {n : Int} (h0 : 0 ≤ n) (h1 : n < 4294967296) : IntKind.u32.wrap n = n := by
  simp only [IntKind.wrap, IntKind.signed, IntKind.bits, Bool.false_and, Bool.false_eq_true, if_false]; omega
theorem wu16 {n : Int} (h0 : 0 ≤ n) (h1 : n < 65536) : IntKind.u16.wrap n = n := by
  simp only [IntKind.wrap, IntKind.signed, IntKind.bits, Bool.false_and, Bool.false_eq_true, if_false]; omega
theorem wu8 {n : Int} (h0 : 0 ≤ n) (h1 : n < 256) : IntKind.u8.wrap n = n := by
  simp only [IntKind.wrap, IntKind.signed, IntKind.bits, Bool.false_and, Bool.false_eq_true, if_false]; omega
theorem ev_pos {α : Type} {c : Prop} [Decidable c] {f g : Nat → Option α} {r : α} (hc : c) (h : Ev f r) : Ev (fun k => if c then f k else g k) r := by
  simp only [if_pos hc]; exact h
theorem ev_neg {α : Type} {c : Prop} [Decidable c] {f g : Nat → Option α} {r : α} (hc : ¬ c) (h : Ev g r) : Ev (fun k => if c then f k else g k) r := by
  simp only [if_neg hc]; exact h
theorem ev_eq {α : Type} {f : Nat → Option α} {r : α} (h : ∀ k, f k = some r) : Ev f r := ⟨0, fun k _ => h k⟩
theorem ev_bind {α β : Type} {o : Option α} {f : Nat → α → Option β} {a : α} {r : β} (h : o = some a) (k : Ev (fun n => f n a) r) : Ev (fun n => o.bind (f n)) r := by
  subst h; exact k
theorem rd_at {xs : List Int} {i : Nat} (h : i < xs.length) : rd xs (i : Int) = xs[i] := by
  simp [rd, List.getElem?_eq_getElem h]
theorem byte_at {xs : List Int} (hb : Bytes xs) {i : Nat} (h : i < xs.length) : 0 ≤ xs[i] ∧ xs[i] ≤ 255 := hb _ (List.getElem_mem h)
theorem byte_of_wf {a : Int} (h : (Lit.int .u8 a).wf = true) : 0 ≤ a ∧ a ≤ 255 := by
  have := h
  simp [Lit.wf, IntKind.min, IntKind.max, IntKind.signed, IntKind.bits] at this
  exact this
theorem i64_of_wf {a : Int} (h : (Lit.int .i64 a).wf = true) : -9223372036854775808 ≤ a ∧ a ≤ 9223372036854775807 := by
  have := h
  simp [Lit.wf, IntKind.min, IntKind.max, IntKind.signed, IntKind.bits] at this
  exact this
theorem u64_of_wf {a : Int} (h : (Lit.int .u64 a).wf = true) : 0 ≤ a ∧ a ≤ 18446744073709551615 := by
  have := h
  simp [Lit.wf, IntKind.min, IntKind.max, IntKind.signed, IntKind.bits] at this
  exact this
theorem u32_of_wf {a : Int} (h : (Lit.int .u32 a).wf = true) : 0 ≤ a ∧ a ≤ 4294967295 := by
  have := h
  simp [Lit.wf, IntKind.min, IntKind.max, IntKind.signed, IntKind.bits] at this
  exact this
theorem u16_of_wf {a : Int} (h : (Lit.int .u16 a).wf = true) : 0 ≤ a ∧ a ≤ 65535 := by
  have := h
  simp [Lit.wf, IntKind.min, IntKind.max, IntKind.signed, IntKind.bits] at this
  exact this
theorem bytes_of_wf {l : List Int} (h : ∀ x ∈ l, (Lit.int .u8 x).wf = true) : Bytes l := fun x hx => byte_of_wf (h x hx)
/-! octet.Get: the number at a place, or none. -/
def fits (l : List Int) (at_ w : Int) : Prop := 0 ≤ w ∧ w ≤ 8 ∧ 0 ≤ at_ ∧ at_ + w ≤ (l.length : Int)
instance (l : List Int) (a w : Int) : Decidable (fits l a w) := by unfold fits; infer_instance
def slice_ (l : List Int) (at_ w : Int) : List Int := (l.drop at_.toNat).take w.toNat
def get (l : List Int) (at_ w : Int) : Int × Bool := if fits l at_ w then (num (slice_ l at_ w), true) else (0, false)
theorem slice_length {l : List Int} {a w : Int} (h : fits l a w) : (slice_ l a w).length = w.toNat := by
  unfold fits at h; unfold slice_; rw [List.length_take, List.length_drop]; omega
theorem slice_bytes {l : List Int} (hb : Bytes l) (a w : Int) : Bytes (slice_ l a w) := (hb.drop _).take _
theorem p256 {i : Nat} (h : i ≤ 8) : (256 : Int) ^ i ≤ 18446744073709551616 := by
  rcases i with _ | _ | _ | _ | _ | _ | _ | _ | _ | i <;> first | decide | (exfalso; omega)
theorem p256' {i : Nat} (h : i ≤ 7) : (256 : Int) ^ i ≤ 72057594037927936 := by
  rcases i with _ | _ | _ | _ | _ | _ | _ | _ | i <;> first | decide | (exfalso; omega)
theorem num_lt {l : List Int} (hb : Bytes l) (h : l.length ≤ 7) : 0 ≤ num l ∧ num l < 72057594037927936 := by
  have h1 := num_range hb; have h2 := p256' h; exact ⟨h1.1, Int.lt_of_lt_of_le h1.2 h2⟩
theorem num_lt8 {l : List Int} (hb : Bytes l) (h : l.length ≤ 8) : 0 ≤ num l ∧ num l < 18446744073709551616 := by
  have h1 := num_range hb; have h2 := p256 h; exact ⟨h1.1, Int.lt_of_lt_of_le h1.2 h2⟩
theorem or_byte {n b : Int} (h0 : 0 ≤ n) (h1 : n < 72057594037927936) (hb : 0 ≤ b ∧ b ≤ 255) : Go.bits .or .u64 (IntKind.u64.wrap (n * 256)) (IntKind.u64.wrap b) = n * 256 + b := by
  rw [wu64 (n := n * 256) (by omega) (by omega), wu64 (n := b) (by omega) (by omega)]
  refine bits_join .u64 64 (by decide) (fun m h2 h3 => wu64 h2 (by omega)) 8 _ _ (by omega) (by omega) (by omega) hb.1 (by omega) (by omega)
theorem take_snoc {l : List Int} {a i : Nat} (h : a + i < l.length) : (l.drop a).take (i + 1) = (l.drop a).take i ++ [l[a + i]] := by
  rw [List.take_add_one]
  congr 1
  rw [List.getElem?_drop, List.getElem?_eq_getElem h]; rfl
theorem get_l0 {l : List Int} (hb : Bytes l) (hl : l.length ≤ 140737488355200) {a w : Nat} (hw : w ≤ 8) (hf : a + w ≤ l.length) : ∀ d i : Nat, w = i + d →
    Ev (fun k => octet_Get.l0 k l (a : Int) (num ((l.drop a).take i)) (w : Int) (i : Int)) (num ((l.drop a).take w), true) := by
  intro d
  induction d with
  | zero =>
    intro i he
    have e : i = w := by omega
    subst e
    refine Ev.step (f := fun _ => _) (fun k => ?_) (Ev.now _)
    simp only [octet_Get.l0]; rw [if_neg (by omega)]
  | succ d ih =>
    intro i he
    have hlt : a + i < l.length := by omega
    have hbt := byte_at hb hlt
    have hn := num_lt (l := (l.drop a).take i) ((hb.drop _).take _) (by rw [List.length_take]; omega)
    refine Ev.step (f := fun k => octet_Get.l0 k l (a : Int) (num ((l.drop a).take (i + 1))) (w : Int) ((i + 1 : Nat) : Int)) (fun k => ?_) (ih (i + 1) (by omega))
    simp only [octet_Get.l0]
    rw [if_pos (by omega), w64 (n := (a : Int) + (i : Int)) (by omega) (by omega), if_pos (by omega), if_pos (by omega), w64 (n := (i : Int) + 1) (by omega) (by omega)]
    rw [show (a : Int) + (i : Int) = ((a + i : Nat) : Int) by omega, rd_at hlt, or_byte hn.1 hn.2 hbt, take_snoc hlt, num_snoc]; rfl
theorem get_ev {l : List Int} (hb : Bytes l) (hl : l.length ≤ 140737488355200) {a w : Int} (ha : -9223372036854775808 ≤ a ∧ a ≤ 9223372036854775807) (hw : -9223372036854775808 ≤ w ∧ w ≤ 9223372036854775807) :
    Ev (fun k => octet_Get.f k l a w) (get l a w) := by
  have none_ : ∀ k x0 x1 x2, octet_Get.j0 (k + 1) x0 x1 x2 true = some (0, false) := fun k x0 x1 x2 => by simp only [octet_Get.j0]; rw [if_pos trivial]
  have bad : ∀ {a' w' : Int}, Ev (fun k => octet_Get.j0 k l a' w' true) (0, false) := Ev.step (f := fun _ => _) (fun k => none_ k _ _ _) (Ev.now _)
  unfold octet_Get.f get
  by_cases h1 : w < 0
  · rw [if_neg (by unfold fits; omega)]; exact ev_pos h1 bad
  refine ev_neg h1 ?_
  by_cases h2 : w > 8
  · rw [if_neg (by unfold fits; omega)]; exact ev_pos h2 bad
  refine ev_neg h2 ?_
  by_cases h3 : a < 0
  · rw [if_neg (by unfold fits; omega)]; exact ev_pos h3 bad
  refine ev_neg h3 ?_
  by_cases h4 : a > (l.length : Int)
  · rw [if_neg (by unfold fits; omega)]; exact ev_pos h4 bad
  refine ev_neg h4 ?_
  rw [w64 (n := (l.length : Int) - a) (by omega) (by omega)]
  by_cases h5 : w > (l.length : Int) - a
  · rw [if_neg (by unfold fits; omega), decide_eq_true h5]; exact bad
  rw [if_pos (by unfold fits; omega), decide_eq_false h5]
  obtain ⟨an, rfl⟩ := Int.eq_ofNat_of_zero_le (show 0 ≤ a by omega)
  obtain ⟨wn, rfl⟩ := Int.eq_ofNat_of_zero_le (show 0 ≤ w by omega)
  have h := get_l0 hb hl (a := an) (w := wn) (by omega) (by omega) wn 0 (by omega)
  refine Ev.step (f := fun k => octet_Get.l0 k l (an : Int) 0 (wn : Int) 0) (fun k => ?_) ?_
  · simp only [octet_Get.j0]; rw [if_neg (by decide)]
  · exact h
theorem wraps63 (n : Int) (h0 : 0 ≤ n) (h1 : n < 2 ^ 63) : IntKind.i64.wrap n = n := by rw [IntKind.wrap_i64]; omega
/-- The number at a place. -/
def at_ (l : List Int) (i w : Nat) : Int := num ((l.drop i).take w)
theorem at_range {l : List Int} (hb : Bytes l) (i w : Nat) : 0 ≤ at_ l i w ∧ at_ l i w < 256 ^ w := by
  unfold at_
  have h := num_range (l := (l.drop i).take w) ((hb.drop _).take _)
  have hl : ((l.drop i).take w).length ≤ w := by rw [List.length_take]; omega
  refine ⟨h.1, Int.lt_of_lt_of_le h.2 ?_⟩
  generalize ((l.drop i).take w).length = m at hl
  obtain ⟨d, rfl⟩ : ∃ d, w = m + d := ⟨w - m, by omega⟩
  rw [Int.pow_add]
  have h1 := pow_pos m
  have h2 := pow_pos d
  have : (256 : Int) ^ m * 1 ≤ 256 ^ m * 256 ^ d := Int.mul_le_mul_of_nonneg_left (by omega) (by omega)
  omega
theorem take_add (l : List Int) (i w : Nat) : l.take (i + w) = l.take i ++ (l.drop i).take w := by
  rw [List.take_add]
theorem be_at {l : List Int} (hb : Bytes l) {i w : Nat} (h : i + w ≤ l.length) : be (at_ l i w) w = (l.drop i).take w := by
  have h1 := num_eq_be (l := (l.drop i).take w) ((hb.drop _).take _)
  rw [show ((l.drop i).take w).length = w by rw [List.length_take, List.length_drop]; omega] at h1
  exact h1
theorem one_bt {s : ByteArray} {i : Nat} (h : i < s.size) : at_ (bytesOf s) i 1 = bt s (i : Int) := by
  have hb := MBytes.range s
  have hl := bytesOf_length s
  rw [← rd_bytesOf]
  generalize bytesOf s = l at *
  unfold at_
  have : (l.drop i).take 1 = [l[i]] := by
    rw [List.drop_eq_getElem_cons (show i < l.length by omega)]; rfl
  rw [this]
  simp [num, rd, List.getElem?_eq_getElem (show i < l.length by omega)]
theorem two_bt {s : ByteArray} {i : Nat} (h : i + 1 < s.size) : at_ (bytesOf s) i 2 = bt s (i : Int) * 256 + bt s ((i + 1 : Nat) : Int) := by
  rw [← one_bt (s := s) (i := i) (by omega), ← one_bt (s := s) (i := i + 1) (by omega)]
  have hl := bytesOf_length s
  generalize bytesOf s = l at *
  unfold at_
  rw [show (l.drop i).take 2 = [l[i], l[i + 1]] by rw [List.drop_eq_getElem_cons (show i < l.length by omega), List.drop_eq_getElem_cons (show i + 1 < l.length by omega)]; rfl,
    show (l.drop i).take 1 = [l[i]] by rw [List.drop_eq_getElem_cons (show i < l.length by omega)]; rfl, show (l.drop (i + 1)).take 1 = [l[i + 1]] by rw [List.drop_eq_getElem_cons (show i + 1 < l.length by omega)]; rfl]
  simp only [num, List.foldl]
  omega
theorem at_app {p q : List Int} {i : Nat} (v : Int) (w : Nat) (hp : p.length = i) : at_ (p ++ (be v w ++ q)) i w = v % 256 ^ w := by
  unfold at_
  rw [List.drop_left' hp, List.take_left' (be_length _ _), num_be]
theorem be_one {n : Int} (h : 0 ≤ n ∧ n ≤ 255) : be n 1 = [n] := by
  simp only [be, Int.pow_zero, Int.ediv_one]; rw [show n % 256 = n by omega]
theorem num_ev {l : List Int} (hb : Bytes l) {w : Nat} (hw : w ≤ 8) (hl : w ≤ l.length) (hl2 : l.length ≤ 140737488355200) : Ev (fun k => ip4_Take.num k l (w : Int)) (num (l.take w)) := by
  unfold ip4_Take.num
  have h := get_ev (l := l) (a := 0) (w := (w : Int)) hb hl2 (by omega) (by omega)
  have e : get l 0 (w : Int) = (num (l.take w), true) := by
    unfold get
    rw [if_pos (by unfold fits; omega)]
    unfold slice_
    simp
  rw [e] at h
  exact Ev.bind h (ev_eq fun _ => if_pos rfl)
theorem andbit (x i : Nat) : x &&& 2 ^ i = x / 2 ^ i % 2 * 2 ^ i := by
  apply Nat.eq_of_testBit_eq
  intro j
  rw [Nat.testBit_and, Nat.testBit_two_pow, Nat.testBit_mul_two_pow]
  by_cases e : i = j
  · subst e; simp [Nat.testBit_eq_decide_div_mod_eq]
  · simp [e]
    intro hij
    have h2 : x / 2 ^ i % 2 < 2 := Nat.mod_lt _ (by decide)
    apply Nat.testBit_lt_two_pow
    exact Nat.lt_of_lt_of_le h2 (show 2 ^ 1 ≤ 2 ^ (j - i) from Nat.pow_le_pow_right (by decide) (by omega))
/-- One bit of a number. -/
theorem and_bit {x : Int} (h0 : 0 ≤ x) (h1 : x < 65536) (i : Nat) (hi : i ≤ 15) : Go.bits .and .i64 x (2 ^ i : Nat) = x / (2 ^ i : Nat) % 2 * (2 ^ i : Nat) := by
  obtain ⟨a, rfl⟩ := Int.eq_ofNat_of_zero_le h0
  have hp : 2 ^ i ≤ 2 ^ 15 := Nat.pow_le_pow_right (by decide) hi
  have h := (bits_nat .i64 63 (by decide) wraps63 a (2 ^ i) (by omega) (by omega)).1
  rw [h, andbit]
  push_cast
  rfl
theorem bit128 {x : Int} (h0 : 0 ≤ x) (h1 : x ≤ 255) : (¬ Go.bits .and .u8 x 128 = 0) ↔ 128 ≤ x := by
  obtain ⟨a, rfl⟩ := Int.eq_ofNat_of_zero_le h0
  have h : ∀ n : Nat, n < 256 → ((¬ Go.bits .and .u8 (n : Int) 128 = 0) ↔ 128 ≤ n) := by decide +kernel
  have := h a (by omega)
  omega
theorem or_swap {x y : Int} (h0 : 0 ≤ x) (h1 : x < 2 ^ 63) (h2 : 0 ≤ y) (h3 : y < 2 ^ 63) : Go.bits .or .i64 x y = Go.bits .or .i64 y x := by
  obtain ⟨a, rfl⟩ := Int.eq_ofNat_of_zero_le h0
  obtain ⟨b, rfl⟩ := Int.eq_ofNat_of_zero_le h2
  rw [(bits_nat .i64 63 (by decide) wraps63 a b (by omega) (by omega)).2, (bits_nat .i64 63 (by decide) wraps63 b a (by omega) (by omega)).2, Nat.or_comm]
/-- The bits of a piece are a sum. -/
theorem bits_eq {df mf : Bool} {off : Int} (h0 : 0 ≤ off) (h1 : off ≤ 8191) : ip4_Lay.bits df mf off = (if df = true then 16384 else 0) + (if mf = true then 8192 else 0) + off := by
  unfold ip4_Lay.bits
  have j := fun (i : Nat) (x y : Int) => bits_join .i64 63 (by decide) wraps63 i x y
  cases df <;> cases mf <;> simp only [if_true, Bool.false_eq_true, if_false]
  · rw [j 0 off 0 (by omega) (by omega) (by omega) (by omega) (by omega) (by omega), j 0 (off + 0) 0 (by omega) (by omega) (by omega) (by omega) (by omega) (by omega)]; omega
  · rw [j 0 off 0 (by omega) (by omega) (by omega) (by omega) (by omega) (by omega), or_swap (by omega) (by omega) (by omega) (by omega), j 13 8192 (off + 0) (by omega) (by decide) (by omega) (by omega) (by omega) (by omega)]; omega
  · rw [or_swap (x := off) (by omega) (by omega) (by omega) (by omega), j 14 16384 off (by omega) (by decide) (by omega) (by omega) (by omega) (by omega), j 0 (16384 + off) 0 (by omega) (by omega) (by omega) (by omega) (by omega) (by omega)]; omega
  · obtain ⟨a, rfl⟩ := Int.eq_ofNat_of_zero_le h0
    have e1 := (bits_nat .i64 63 (by decide) wraps63 a 16384 (by omega) (by omega)).2
    have e2 := (bits_nat .i64 63 (by decide) wraps63 (a ||| 16384) 8192 (Nat.or_lt_two_pow (by omega) (by omega)) (by omega)).2
    have e3 := (bits_nat .i64 63 (by decide) wraps63 24576 a (by omega) (by omega)).2
    have e4 := j 13 24576 a (by omega) (by decide) (by omega) (by omega) (by omega) (by omega)
    rw [show ((16384 : Nat) : Int) = 16384 from rfl] at e1
    rw [show ((8192 : Nat) : Int) = 8192 from rfl] at e2
    rw [show ((24576 : Nat) : Int) = 24576 from rfl] at e3
    rw [e1, e2, Nat.or_assoc, show 16384 ||| 8192 = 24576 by decide, Nat.or_comm, ← e3, e4]
    omega
/-- What ip4.Options comes to. -/
theorem opts_some (s : ByteArray) : ∀ (d k : Nat) (out : List S113) (a : Int), 0 ≤ a → a ≤ (s.size : Int) → (s.size : Int) - a = d → d < k → ∃ r, ip4_Options.l s k out a = some r := by
  intro d
  induction d using Nat.strongRecOn with
  | _ d ih =>
    intro k out a h0 h1 hd hk
    obtain ⟨k, rfl⟩ : ∃ m, k = m + 1 := ⟨k - 1, by omega⟩
    rw [ip4_Options.l]
    by_cases c1 : a = (s.size : Int)
    · rw [if_pos c1]; exact ⟨_, rfl⟩
    rw [if_neg c1]
    by_cases c2 : bt s a = 0
    · rw [if_pos c2]; exact ⟨_, rfl⟩
    rw [if_neg c2]
    by_cases c3 : bt s a = 1
    · rw [if_pos c3]; exact ih (d - 1) (by omega) k _ _ (by omega) (by omega) (by omega) (by omega)
    rw [if_neg c3]
    by_cases c4 : a + 1 = (s.size : Int)
    · rw [if_pos c4]; exact ⟨_, rfl⟩
    rw [if_neg c4]
    by_cases c5 : bt s (a + 1) < 2
    · rw [if_pos c5]; exact ⟨_, rfl⟩
    rw [if_neg c5]
    by_cases c6 : (s.size : Int) - a < bt s (a + 1)
    · rw [if_pos c6]; exact ⟨_, rfl⟩
    rw [if_neg c6]
    exact ih (d - (bt s (a + 1)).toNat) (by omega) k _ _ (by omega) (by omega) (by omega) (by omega)
def optsR (s : ByteArray) : List S113 × Int := (ip4_Options.l s (s.size + 1) [] 0).getD ([], 0)
theorem opts_eq (s : ByteArray) (hs : s.size ≤ 1099511627776) : ip4_Options.f s = some (optsR s) := by
  obtain ⟨r, hr⟩ := opts_some s s.size (s.size + 1) [] 0 (by omega) (by omega) (by omega) (by omega)
  unfold ip4_Options.f optsR
  rw [if_pos hs, hr]; rfl
/-- What ip4.heads comes to. -/
def headsT (s : ByteArray) : Int × Int × Int :=
  if ¬ S ((bytesOf s).take (ip4_heads.hd s).toNat) = 65535 then (0, 0, 52) else if at_ (bytesOf s) 2 2 < ip4_heads.hd s ∨ 128 ≤ bt s 6 then (0, 0, 50) else if (s.size : Int) < at_ (bytesOf s) 2 2 then (0, 0, 51) else (ip4_heads.hd s, at_ (bytesOf s) 2 2, 0)
def headsR (s : ByteArray) : Int × Int × Int :=
  if (s.size : Int) < 20 then (0, 0, 51) else if ip4_heads.hd s < 20 ∨ bt s 0 > 79 then (0, 0, 50) else if (s.size : Int) < ip4_heads.hd s then (0, 0, 51) else headsT s
theorem wh_eq {s : ByteArray} (h : 20 ≤ s.size) : ip4_heads.wh s = at_ (bytesOf s) 2 2 := by
  have r2 := bt_range s 2; have r3 := bt_range s 3
  have h2 := two_bt (s := s) (i := 2) (by omega)
  rw [h2]
  unfold ip4_heads.wh
  exact bits_join .i64 63 (by decide) wraps63 8 _ _ (by omega) (by omega) (by omega) r3.1 (by omega) (by omega)
theorem heads_ev (s : ByteArray) : Ev (fun k => ip4_heads.f k s) (headsR s) := by
  unfold ip4_heads.f headsR
  by_cases c1 : (s.size : Int) < 20
  · rw [if_pos c1]; exact ev_pos c1 (ev_eq fun _ => rfl)
  rw [if_neg c1]
  refine ev_neg c1 ?_
  by_cases c2 : ip4_heads.hd s < 20 ∨ bt s 0 > 79
  · rw [if_pos c2]; exact ev_pos c2 (ev_eq fun _ => rfl)
  rw [if_neg c2]
  refine ev_neg c2 ?_
  by_cases c3 : (s.size : Int) < ip4_heads.hd s
  · rw [if_pos c3]; exact ev_pos c3 (ev_eq fun _ => rfl)
  rw [if_neg c3]
  refine ev_neg c3 ?_
  have hx : bytesOf (s.extract 0 (ip4_heads.hd s).toNat) = (bytesOf s).take (ip4_heads.hd s).toNat := by rw [MBytes.extract]; simp
  have hb : Bytes ((bytesOf s).take (ip4_heads.hd s).toNat) := Bytes.take (MBytes.range s) _
  have hl : ((bytesOf s).take (ip4_heads.hd s).toNat).length ≤ 1000 := by
    rw [List.length_take]; have := bt_range s 0; unfold ip4_heads.hd; omega
  have hs := PureT4.sum1_ev hb (by omega)
  rw [hx]
  refine Ev.bind hs ?_
  rw [wh_eq (by omega)]
  have r := at_range (MBytes.range s) 2 2
  have b6 := bit128 (bt_range s 6).1 (bt_range s 6).2
  by_cases c4 : ¬ S ((bytesOf s).take (ip4_heads.hd s).toNat) = 65535
  · have e : headsT s = (0, 0, 52) := by unfold headsT; rw [if_pos c4]
    rw [e]; exact ev_pos c4 (ev_eq fun _ => rfl)
  refine ev_neg c4 (ev_neg (by omega) ?_)
  by_cases c5 : at_ (bytesOf s) 2 2 < ip4_heads.hd s ∨ 128 ≤ bt s 6
  · have e : headsT s = (0, 0, 50) := by unfold headsT; rw [if_neg c4, if_pos c5]
    rw [e]; exact ev_pos (c5.imp id b6.2) (ev_eq fun _ => rfl)
  refine ev_neg (fun q => c5 (q.imp id b6.1)) ?_
  by_cases c6 : (s.size : Int) < at_ (bytesOf s) 2 2
  · have e : headsT s = (0, 0, 51) := by unfold headsT; rw [if_neg c4, if_neg c5, if_pos c6]
    rw [e]; exact ev_pos c6 (ev_eq fun _ => rfl)
  have e : headsT s = (ip4_heads.hd s, at_ (bytesOf s) 2 2, 0) := by unfold headsT; rw [if_neg c4, if_neg c5, if_neg c6]
  rw [e]; exact ev_neg c6 (ev_eq fun _ => rfl)
/-- What holds of a packet whose header is in order. -/
theorem heads_ok {s : ByteArray} (h : (headsR s).2.2 = 0) : 20 ≤ s.size ∧ 20 ≤ ip4_heads.hd s ∧ bt s 0 ≤ 79 ∧ ip4_heads.hd s ≤ (s.size : Int) ∧ S ((bytesOf s).take (ip4_heads.hd s).toNat) = 65535 ∧ ip4_heads.hd s ≤ at_ (bytesOf s) 2 2 ∧ bt s 6 ≤ 127 ∧ at_ (bytesOf s) 2 2 ≤ (s.size : Int) ∧ headsR s = (ip4_heads.hd s, at_ (bytesOf s) 2 2, 0) := by
  unfold headsR headsT at h ⊢
  by_cases c1 : (s.size : Int) < 20
  · rw [if_pos c1] at h; cases h
  rw [if_neg c1] at h ⊢
  by_cases c2 : ip4_heads.hd s < 20 ∨ bt s 0 > 79
  · rw [if_pos c2] at h; cases h
  rw [if_neg c2] at h ⊢
  by_cases c3 : (s.size : Int) < ip4_heads.hd s
  · rw [if_pos c3] at h; cases h
  rw [if_neg c3] at h ⊢
  by_cases c4 : ¬ S ((bytesOf s).take (ip4_heads.hd s).toNat) = 65535
  · rw [if_pos c4] at h; cases h
  rw [if_neg c4] at h ⊢
  by_cases c5 : at_ (bytesOf s) 2 2 < ip4_heads.hd s ∨ 128 ≤ bt s 6
  · rw [if_pos c5] at h; cases h
  rw [if_neg c5] at h ⊢
  by_cases c6 : (s.size : Int) < at_ (bytesOf s) 2 2
  · rw [if_pos c6] at h; cases h
  rw [if_neg c6]
  exact ⟨by omega, by omega, by omega, by omega, by simpa using c4, by omega, by omega, by omega, rfl⟩
/-- The packet of a header that is in order. -/
def pkt (s : ByteArray) : Int × Int × Bool × Bool × Int × Int × Int × Bool × Int × Int × Bool × Int × Int × ByteArray × ByteArray × Int :=
  (at_ (bytesOf s) 1 1, at_ (bytesOf s) 4 2, at_ (bytesOf s) 6 2 / 16384 == 1, at_ (bytesOf s) 6 2 / 8192 % 2 == 1, at_ (bytesOf s) 6 2 % 8192, at_ (bytesOf s) 8 1, at_ (bytesOf s) 9 1, false, 0, at_ (bytesOf s) 12 4, false, 0, at_ (bytesOf s) 16 4, s.extract 20 (ip4_heads.hd s).toNat, s.extract (ip4_heads.hd s).toNat (at_ (bytesOf s) 2 2).toNat, 0)
def takeR (s : ByteArray) : Int × Int × Bool × Bool × Int × Int × Int × Bool × Int × Int × Bool × Int × Int × ByteArray × ByteArray × Int :=
  if ¬ (headsR s).2.2 = 0 then ip4_Take.no (headsR s).2.2 else if ¬ (optsR (s.extract 20 (ip4_heads.hd s).toNat)).2 = 0 then ip4_Take.no (optsR (s.extract 20 (ip4_heads.hd s).toNat)).2 else pkt s
theorem off_lt {s : ByteArray} (h : 20 ≤ s.size) (h6 : bt s 6 ≤ 127) : 0 ≤ at_ (bytesOf s) 6 2 ∧ at_ (bytesOf s) 6 2 < 32768 := by
  have r6 := bt_range s 6; have r7 := bt_range s 7
  rw [two_bt (s := s) (i := 6) (by omega)]
  simp only [Nat.reduceAdd]
  have e6 : bt s ((6 : Nat) : Int) = bt s 6 := rfl
  have e7 : bt s ((7 : Nat) : Int) = bt s 7 := rfl
  omega
theorem opt_size {s : ByteArray} : (s.extract 20 (ip4_heads.hd s).toNat).size ≤ 1000 := by
  have := bt_range s 0
  rw [← bytesOf_length, MBytes.extract, List.length_take, List.length_drop]
  unfold ip4_heads.hd; omega
theorem take_ev (s : ByteArray) : Ev (fun k => ip4_Take.f k s) (takeR s) := by
  unfold ip4_Take.f takeR
  refine Ev.bind (heads_ev s) ?_
  by_cases c0 : ¬ (headsR s).2.2 = 0
  · rw [if_pos c0]; exact ev_pos c0 (ev_eq fun _ => rfl)
  rw [if_neg c0]
  refine ev_neg c0 ?_
  obtain ⟨h1, h2, h3, h4, h5, h6, h7, h8, e⟩ := heads_ok (by simpa using c0)
  rw [e]
  refine ev_neg (fun q => q ⟨h2, h6, h8⟩) ?_
  have hb := MBytes.range s
  have hl := bytesOf_length s
  have ho := off_lt h1 h7
  have hz := opt_size (s := s)
  have hx : bytesOf (s.extract 0 20) = (bytesOf s).take 20 := by rw [MBytes.extract]; simp
  have hopt := opts_eq (s.extract 20 (ip4_heads.hd s).toNat) (by omega)
  rw [hx]
  have nev : ∀ (i w : Nat), w ≤ 8 → i + w ≤ 20 → Ev (fun k => ip4_Take.num k (((bytesOf s).take 20).drop i) (w : Int)) (at_ (bytesOf s) i w) := by
    intro i w hw hi
    have h := num_ev (l := ((bytesOf s).take 20).drop i) (Bytes.drop (Bytes.take hb _) _) hw (by rw [List.length_drop, List.length_take]; omega) (by rw [List.length_drop, List.length_take]; omega)
    have e : (((bytesOf s).take 20).drop i).take w = ((bytesOf s).drop i).take w := by
      rw [List.drop_take, List.take_take, Nat.min_eq_left (by omega)]
    rw [e] at h
    exact h
  have h0 := nev 0 1 (by omega) (by omega)
  rw [List.drop_zero] at h0
  have r1 := at_range hb 1 1; have r4 := at_range hb 4 2; have r8 := at_range hb 8 1; have r9 := at_range hb 9 1
  refine Ev.bind h0 (Ev.bind (nev 1 1 (by omega) (by omega)) (Ev.bind (nev 2 2 (by omega) (by omega)) (Ev.bind (nev 4 2 (by omega) (by omega)) (Ev.bind (nev 6 2 (by omega) (by omega)) (Ev.bind (nev 8 1 (by omega) (by omega)) (Ev.bind (nev 9 1 (by omega) (by omega)) (Ev.bind (nev 10 2 (by omega) (by omega)) (Ev.bind (nev 12 4 (by omega) (by omega)) (Ev.bind (nev 16 4 (by omega) (by omega)) (ev_bind hopt (ev_eq fun _ => ?_)))))))))))
  unfold ip4_Take.fin
  rw [if_neg (fun q => q ⟨by omega, by omega, by omega, by omega, by omega, by omega, by omega, by omega, by omega, by omega⟩)]
  by_cases c1 : ¬ (optsR (s.extract 20 (ip4_heads.hd s).toNat)).2 = 0
  · rw [if_pos c1, if_pos c1]
  rw [if_neg c1, if_neg c1]
  have m1 := and_bit (x := at_ (bytesOf s) 6 2) (by omega) (by omega) 14 (by decide)
  have m2 := and_bit (x := at_ (bytesOf s) 6 2) (by omega) (by omega) 13 (by decide)
  have m3 := bits_mask .i64 63 (by decide) wraps63 13 (by decide) (at_ (bytesOf s) 6 2) (by omega) (by omega)
  rw [show ((2 ^ 14 : Nat) : Int) = 16384 by decide] at m1
  rw [show ((2 ^ 13 : Nat) : Int) = 8192 by decide] at m2
  rw [show ((2 : Int) ^ 13 - 1) = 8191 by decide, show ((2 : Int) ^ 13) = 8192 by decide] at m3
  unfold pkt
  rw [m1, m2, m3]
  have b1 : (at_ (bytesOf s) 6 2 / 16384 % 2 * 16384 != 0) = (at_ (bytesOf s) 6 2 / 16384 == 1) := by
    rw [Bool.eq_iff_iff, bne_iff_ne, beq_iff_eq]; omega
  have b2 : (at_ (bytesOf s) 6 2 / 8192 % 2 * 8192 != 0) = (at_ (bytesOf s) 6 2 / 8192 % 2 == 1) := by
    rw [Bool.eq_iff_iff, bne_iff_ne, beq_iff_eq]; omega
  rw [b1, b2]
end Go.Proofs.YtaoopneiglgnkaaDoor.Pure4
namespace Go.Proofs.YtaoopneiglgnkaaDoor.Pure4
open Go.RowKit Go.Proofs.YtaoopneiglgnkaaDoor.PBase Go.Proofs.YtaoopneiglgnkaaDoorW.PrintWords Go.Proofs.YtaoopneiglgnkaaDoorW.PrintLast Go.Proofs.YtaoopneiglgnkaaDoorW.PrintMore Go.Proofs.YtaoopneiglgnkaaDoor.MTally Go.Proofs.YtaoopneiglgnkaaDoor.MBe
def inB (x b : Int) : Bool := decide (0 ≤ x ∧ x ≤ b)
def fourB (b : Bool) (h l : Int) : Bool := decide (b = false ∧ h = 0 ∧ l < 4294967296)
theorem within_eq (x b : Int) : ip4_within.f x b = some (inB x b) := by
  unfold ip4_within.f inB
  split
  · congr 1; apply decide_eq_decide.2; omega
  · congr 1; symm; apply decide_eq_false; omega
theorem four_eq (b : Bool) (h l : Int) : ip4_four.f b h l = some (fourB b h l) := by
  unfold ip4_four.f addr_Valid.f fourB
  cases b with
  | true => simp
  | false =>
    by_cases e : h = 0
    · subst e; simp
    · simp [e]
/-- May a packet be? -/
def mayB (tos id off ttl proto : Int) (b1 : Bool) (h1 src : Int) (b2 : Bool) (h2 dst : Int) (opts : ByteArray) : Bool :=
  inB tos 255 && (inB ttl 255 && (inB proto 255 && (inB id 65535 && (inB off 8191 && (fourB b1 h1 src && (fourB b2 h2 dst && (decide ((opts.size : Int) ≤ 40) && (decide ((opts.size : Int) % 4 = 0) && ((optsR opts).2 == 0)))))))))
theorem may_eq (tos id : Int) (df mf : Bool) (off ttl proto : Int) (b1 : Bool) (h1 src : Int) (b2 : Bool) (h2 dst : Int) (opts data : ByteArray) (hs : opts.size ≤ 1099511627776) :
    ip4_may.f tos id df mf off ttl proto b1 h1 src b2 h2 dst opts data = some (mayB tos id off ttl proto b1 h1 src b2 h2 dst opts) := by
  unfold ip4_may.f mayB
  rw [opts_eq opts hs]
  simp only [Option.bind_some, within_eq, four_eq]
  have ite_d : ∀ (c : Prop) [Decidable c] (a b : Option Bool), (if c then a else b) = (if decide c = true then a else b) := fun c _ a b => by by_cases h : c <;> simp [h]
  rw [ite_d ((opts.size : Int) ≤ 40), ite_d ((opts.size : Int) % 4 = 0)]
  generalize decide ((opts.size : Int) ≤ 40) = x8
  generalize decide ((opts.size : Int) % 4 = 0) = x9
  generalize inB tos 255 = x1
  generalize inB ttl 255 = x2
  generalize inB proto 255 = x3
  generalize inB id 65535 = x4
  generalize inB off 8191 = x5
  generalize fourB b1 h1 src = x6
  generalize fourB b2 h2 dst = x7
  cases x1; rfl
  cases x2; rfl
  cases x3; rfl
  cases x4; rfl
  cases x5; rfl
  cases x6; rfl
  cases x7; rfl
  cases x8; rfl
  cases x9 <;> rfl
theorem mayB_of {tos id off ttl proto : Int} {b1 : Bool} {h1 src : Int} {b2 : Bool} {h2 dst : Int} {opts : ByteArray} (h : mayB tos id off ttl proto b1 h1 src b2 h2 dst opts = true) :
    (0 ≤ tos ∧ tos ≤ 255) ∧ (0 ≤ ttl ∧ ttl ≤ 255) ∧ (0 ≤ proto ∧ proto ≤ 255) ∧ (0 ≤ id ∧ id ≤ 65535) ∧ (0 ≤ off ∧ off ≤ 8191) ∧ (b1 = false ∧ h1 = 0 ∧ src < 4294967296) ∧ (b2 = false ∧ h2 = 0 ∧ dst < 4294967296) ∧ (opts.size : Int) ≤ 40 ∧ (opts.size : Int) % 4 = 0 ∧ (optsR opts).2 = 0 := by
  unfold mayB inB fourB at h
  simp only [Bool.and_eq_true, decide_eq_true_eq, beq_iff_eq] at h
  exact h
theorem mayB_mk {tos id off ttl proto : Int} {b1 : Bool} {h1 src : Int} {b2 : Bool} {h2 dst : Int} {opts : ByteArray} (h : (0 ≤ tos ∧ tos ≤ 255) ∧ (0 ≤ ttl ∧ ttl ≤ 255) ∧ (0 ≤ proto ∧ proto ≤ 255) ∧ (0 ≤ id ∧ id ≤ 65535) ∧ (0 ≤ off ∧ off ≤ 8191) ∧ (b1 = false ∧ h1 = 0 ∧ src < 4294967296) ∧ (b2 = false ∧ h2 = 0 ∧ dst < 4294967296) ∧ (opts.size : Int) ≤ 40 ∧ (opts.size : Int) % 4 = 0 ∧ (optsR opts).2 = 0) :
    mayB tos id off ttl proto b1 h1 src b2 h2 dst opts = true := by
  unfold mayB inB fourB
  simp only [Bool.and_eq_true, decide_eq_true_eq, beq_iff_eq]
  exact h
/-- The bits of a piece, as a sum. -/
def bitsN (df mf : Bool) (off : Int) : Int := (if df = true then 16384 else 0) + (if mf = true then 8192 else 0) + off
/-- A header with a check, ahead of the options. -/
def hdC (tos id : Int) (df mf : Bool) (off ttl proto src dst ol dl c : Int) : List Int :=
  be (64 + (20 + ol) / 4) 1 ++ be tos 1 ++ be (20 + ol + dl) 2 ++ be id 2 ++ be (bitsN df mf off) 2 ++ be ttl 1 ++ be proto 1 ++ be c 2 ++ be src 4 ++ be dst 4
theorem hdC_length (tos id : Int) (df mf : Bool) (off ttl proto src dst ol dl c : Int) : (hdC tos id df mf off ttl proto src dst ol dl c).length = 20 := by
  unfold hdC; simp [be_length]
theorem hdC_bytes (tos id : Int) (df mf : Bool) (off ttl proto src dst ol dl c : Int) : Bytes (hdC tos id df mf off ttl proto src dst ol dl c) := by
  have b := fun n w => (be_bytes n w : Bytes (be n w))
  unfold hdC
  exact Bytes.append (Bytes.append (Bytes.append (Bytes.append (Bytes.append (Bytes.append (Bytes.append (Bytes.append (Bytes.append (b _ _) (b _ _)) (b _ _)) (b _ _)) (b _ _)) (b _ _)) (b _ _)) (b _ _)) (b _ _)) (b _ _)
theorem cat_eq (tos id : Int) (df mf : Bool) (off ttl proto src dst ol dl : Int) : ip4_Lay.cat (ip4_Lay.ns tos id (bitsN df mf off) ttl proto src dst ol dl) = hdC tos id df mf off ttl proto src dst ol dl 0 := by
  unfold ip4_Lay.ns hdC
  simp [ip4_Lay.cat]
theorem mend_eq (tos id : Int) (df mf : Bool) (off ttl proto src dst ol dl c : Int) (O : List Int) (h0 : 0 ≤ c) (h1 : c ≤ 65535) : ip4_Lay.mend (hdC tos id df mf off ttl proto src dst ol dl 0 ++ O) c = hdC tos id df mf off ttl proto src dst ol dl c ++ O := by
  unfold ip4_Lay.mend hdC
  simp only [be, List.append_assoc, List.cons_append, List.nil_append, List.set_cons_succ, List.set_cons_zero, Int.pow_zero, Int.ediv_one]
  rw [show (256 : Int) ^ 1 = 256 from rfl, show c / 256 % 256 = c / 256 by omega]
/-- What ip4.Lay comes to. -/
def ck (tos id : Int) (df mf : Bool) (off ttl proto src dst : Int) (opts data : ByteArray) : Int := 65535 - S (hdC tos id df mf off ttl proto src dst opts.size data.size 0 ++ bytesOf opts)
def ofR (tos id : Int) (df mf : Bool) (off ttl proto src dst : Int) (opts data : ByteArray) : List Int :=
  hdC tos id df mf off ttl proto src dst opts.size data.size (ck tos id df mf off ttl proto src dst opts data) ++ bytesOf opts ++ bytesOf data
def layR (tos id : Int) (df mf : Bool) (off ttl proto : Int) (b1 : Bool) (h1 src : Int) (b2 : Bool) (h2 dst : Int) (opts data : ByteArray) : ByteArray × Int :=
  if mayB tos id off ttl proto b1 h1 src b2 h2 dst opts = true then (if 65535 < 20 + (opts.size : Int) + (data.size : Int) then (⟨#[]⟩, 53) else (strOfNums (ofR tos id df mf off ttl proto src dst opts data), 0)) else (⟨#[]⟩, 50)
theorem ck_range (tos id : Int) (df mf : Bool) (off ttl proto src dst : Int) (opts data : ByteArray) : 0 ≤ ck tos id df mf off ttl proto src dst opts data ∧ ck tos id df mf off ttl proto src dst opts data ≤ 65535 := by
  have h := S_R (Bytes.append (hdC_bytes tos id df mf off ttl proto src dst opts.size data.size 0) (MBytes.range opts))
  unfold R at h
  unfold ck; omega
theorem bitsN_range {df mf : Bool} {off : Int} (h0 : 0 ≤ off) (h1 : off ≤ 8191) : 0 ≤ bitsN df mf off ∧ bitsN df mf off ≤ 65535 := by
  unfold bitsN; cases df <;> cases mf <;> simp <;> omega
theorem lay_ev (tos id : Int) (df mf : Bool) (off ttl proto : Int) (b1 : Bool) (h1 : Int) {src : Int} (b2 : Bool) (h2 : Int) {dst : Int} (opts data : ByteArray) (hs : opts.size ≤ 1099511627776) (hd : data.size ≤ 140737488355328) (u1 : 0 ≤ src) (u2 : 0 ≤ dst) :
    Ev (fun k => ip4_Lay.f k tos id df mf off ttl proto b1 h1 src b2 h2 dst opts data) (layR tos id df mf off ttl proto b1 h1 src b2 h2 dst opts data) := by
  unfold ip4_Lay.f layR
  refine ev_bind (may_eq tos id df mf off ttl proto b1 h1 src b2 h2 dst opts data hs) ?_
  cases hm : mayB tos id off ttl proto b1 h1 src b2 h2 dst opts with
  | false => exact ev_pos rfl (ev_eq fun _ => rfl)
  | true =>
    obtain ⟨a1, a2, a3, a4, a5, a6, a7, a8, a9, a10⟩ := mayB_of hm
    rw [if_pos rfl]
    refine ev_neg (by decide) (ev_neg (fun q => q ⟨by omega, hd⟩) ?_)
    by_cases hl : 65535 < 20 + (opts.size : Int) + (data.size : Int)
    · rw [if_pos hl]; exact ev_pos hl (ev_eq fun _ => rfl)
    rw [if_neg hl]
    have e := bits_eq (df := df) (mf := mf) a5.1 a5.2
    have r := bitsN_range (df := df) (mf := mf) a5.1 a5.2
    rw [show ip4_Lay.bits df mf off = bitsN df mf off from e, cat_eq]
    have hb := Bytes.append (hdC_bytes tos id df mf off ttl proto src dst opts.size data.size 0) (MBytes.range opts)
    have c := ck_range tos id df mf off ttl proto src dst opts data
    refine ev_neg hl (ev_neg (fun q => q ⟨u1, by omega, u2, by omega, a1.1, a1.2, a4.1, a4.2, a2.1, a2.2, a3.1, a3.2, r.1, r.2⟩) (Ev.bind (PureT4.check1_ev hb (by rw [List.length_append, hdC_length, bytesOf_length]; omega)) ?_))
    rw [show 65535 - S (hdC tos id df mf off ttl proto src dst opts.size data.size 0 ++ bytesOf opts) = ck tos id df mf off ttl proto src dst opts data from rfl]
    refine ev_neg (fun q => q c) (ev_eq fun _ => ?_)
    rw [mend_eq _ _ _ _ _ _ _ _ _ _ _ _ _ c.1 c.2]; rfl
theorem nums_append (l : List Int) (s : ByteArray) (h : Bytes l) : strOfNums l ++ s = strOfNums (l ++ bytesOf s) := by
  apply MBytes.inj
  rw [MBytes.append, MBytes.ofNums h, MBytes.ofNums (Bytes.append h (MBytes.range s))]
end Go.Proofs.YtaoopneiglgnkaaDoor.Pure4
namespace Go.Proofs.YtaoopneiglgnkaaDoor.Pure4
open Go.RowKit Go.Proofs.YtaoopneiglgnkaaDoor.PBase Go.Proofs.YtaoopneiglgnkaaDoorW.PrintWords Go.Proofs.YtaoopneiglgnkaaDoorW.PrintLast Go.Proofs.YtaoopneiglgnkaaDoorW.PrintMore Go.Proofs.YtaoopneiglgnkaaDoor.MTally Go.Proofs.YtaoopneiglgnkaaDoor.MBe
/-- What stands ahead of a header's check, and behind it. -/
def hdA (tos id : Int) (df mf : Bool) (off ttl proto ol dl : Int) : List Int := be (64 + (20 + ol) / 4) 1 ++ be tos 1 ++ be (20 + ol + dl) 2 ++ be id 2 ++ be (bitsN df mf off) 2 ++ be ttl 1 ++ be proto 1
theorem hdC_split (tos id : Int) (df mf : Bool) (off ttl proto src dst ol dl c : Int) : hdC tos id df mf off ttl proto src dst ol dl c = hdA tos id df mf off ttl proto ol dl ++ (be c 2 ++ (be src 4 ++ be dst 4)) := by
  unfold hdC hdA; simp only [List.append_assoc]
theorem hdA_length (tos id : Int) (df mf : Bool) (off ttl proto ol dl : Int) : (hdA tos id df mf off ttl proto ol dl).length = 10 := by
  unfold hdA; simp [be_length]
theorem hdA_bytes (tos id : Int) (df mf : Bool) (off ttl proto ol dl : Int) : Bytes (hdA tos id df mf off ttl proto ol dl) := by
  have b := fun n w => (be_bytes n w : Bytes (be n w))
  unfold hdA
  exact Bytes.append (Bytes.append (Bytes.append (Bytes.append (Bytes.append (Bytes.append (b _ _) (b _ _)) (b _ _)) (b _ _)) (b _ _)) (b _ _)) (b _ _)
/-- The rest of what is summed up. -/
def hdZ (src dst : Int) (opts : ByteArray) : List Int := be src 4 ++ be dst 4 ++ bytesOf opts
theorem hdZ_bytes (src dst : Int) (opts : ByteArray) : Bytes (hdZ src dst opts) := Bytes.append (Bytes.append (be_bytes _ _) (be_bytes _ _)) (MBytes.range _)
theorem S_check (tos id : Int) (df mf : Bool) (off ttl proto src dst : Int) (opts : ByteArray) (dl c : Int) (h0 : 0 ≤ c) (h1 : c ≤ 65535) :
    S (hdC tos id df mf off ttl proto src dst opts.size dl c ++ bytesOf opts) = oadd (oadd (S (hdA tos id df mf off ttl proto opts.size dl)) (S (hdZ src dst opts))) c := by
  have e : hdC tos id df mf off ttl proto src dst opts.size dl c ++ bytesOf opts = hdA tos id df mf off ttl proto opts.size dl ++ (c / 256) :: (c % 256) :: hdZ src dst opts := by
    rw [hdC_split]
    unfold hdZ
    rw [show be c 2 = [c / 256, c % 256] by simp only [be, Int.pow_zero, Int.ediv_one]; rw [show (256 : Int) ^ 1 = 256 from rfl, show c / 256 % 256 = c / 256 by omega]]
    simp only [List.append_assoc, List.cons_append, List.nil_append]
  rw [e, S_word (by rw [hdA_length]) (hdA_bytes _ _ _ _ _ _ _ _ _) (hdZ_bytes _ _ _) (by omega) (by omega), show c / 256 * 256 + c % 256 = c by omega]
theorem S_ck (tos id : Int) (df mf : Bool) (off ttl proto src dst : Int) (opts data : ByteArray) :
    S (hdC tos id df mf off ttl proto src dst opts.size data.size (ck tos id df mf off ttl proto src dst opts data) ++ bytesOf opts) = 65535 := by
  have c := ck_range tos id df mf off ttl proto src dst opts data
  rw [S_check _ _ _ _ _ _ _ _ _ _ _ _ c.1 c.2]
  unfold ck
  rw [S_check _ _ _ _ _ _ _ _ _ _ _ _ (by omega) (by omega)]
  have r := oadd_R (S_R (hdA_bytes tos id df mf off ttl proto opts.size data.size)) (S_R (hdZ_bytes src dst opts))
  rw [oadd_zero r]
  exact oadd_compl r
/-- A packet's bytes, with a check. -/
def pkC (tos id : Int) (df mf : Bool) (off ttl proto src dst : Int) (opts data : ByteArray) (c : Int) : List Int := hdC tos id df mf off ttl proto src dst opts.size data.size c ++ bytesOf opts ++ bytesOf data
theorem pkC_length (tos id : Int) (df mf : Bool) (off ttl proto src dst : Int) (opts data : ByteArray) (c : Int) : (pkC tos id df mf off ttl proto src dst opts data c).length = 20 + opts.size + data.size := by
  unfold pkC; simp only [List.length_append, hdC_length, bytesOf_length]
theorem pkC_bytes (tos id : Int) (df mf : Bool) (off ttl proto src dst : Int) (opts data : ByteArray) (c : Int) : Bytes (pkC tos id df mf off ttl proto src dst opts data c) :=
  Bytes.append (Bytes.append (hdC_bytes _ _ _ _ _ _ _ _ _ _ _ _) (MBytes.range _)) (MBytes.range _)
theorem take_of {s : ByteArray} {tos id : Int} {df mf : Bool} {off ttl proto : Int} {b1 : Bool} {h1 src : Int} {b2 : Bool} {h2 dst : Int} {opts data : ByteArray} {c : Int} {B : List Int} (h : bytesOf s = pkC tos id df mf off ttl proto src dst opts data c ++ B)
    (hm : mayB tos id off ttl proto b1 h1 src b2 h2 dst opts = true) (hl : 20 + (opts.size : Int) + (data.size : Int) ≤ 65535) (u1 : 0 ≤ src) (u2 : 0 ≤ dst) (c0 : 0 ≤ c) (c1 : c ≤ 65535) (hS : S (hdC tos id df mf off ttl proto src dst opts.size data.size c ++ bytesOf opts) = 65535) :
    takeR s = (tos, id, df, mf, off, ttl, proto, b1, h1, src, b2, h2, dst, opts, data, 0) ∧ headsR s = (20 + (opts.size : Int), 20 + (opts.size : Int) + (data.size : Int), 0) ∧ s.size = 20 + opts.size + data.size + B.length ∧
    bt s 8 = ttl ∧ bt s 9 = proto ∧ bt s 10 = c / 256 ∧ bt s 11 = c % 256 := by
  obtain ⟨a1, a2, a3, a4, a5, ⟨rfl, rfl, a6⟩, ⟨rfl, rfl, a7⟩, a8, a9, a10⟩ := mayB_of hm
  have hsz : s.size = 20 + opts.size + data.size + B.length := by rw [← bytesOf_length, h, List.length_append, pkC_length]
  have rb := bitsN_range (df := df) (mf := mf) a5.1 a5.2
  have hL : bytesOf s = be (64 + (20 + (opts.size : Int)) / 4) 1 ++ (be tos 1 ++ (be (20 + (opts.size : Int) + (data.size : Int)) 2 ++ (be id 2 ++ (be (bitsN df mf off) 2 ++ (be ttl 1 ++ (be proto 1 ++ (be c 2 ++ (be src 4 ++ (be dst 4 ++ (bytesOf opts ++ (bytesOf data ++ B))))))))))) := by
    rw [h]; unfold pkC hdC; simp only [List.append_assoc]
  have A : ∀ (p q : List Int) (v : Int) (i w : Nat), bytesOf s = p ++ (be v w ++ q) → p.length = i → at_ (bytesOf s) i w = v % 256 ^ w := fun p q v i w e hp => by rw [e]; exact at_app v w hp
  have q0 : at_ (bytesOf s) 0 1 = 64 + (20 + (opts.size : Int)) / 4 := by rw [A [] _ _ 0 1 (by rw [hL]; rfl) rfl]; omega
  have q1 : at_ (bytesOf s) 1 1 = tos := by rw [A (be (64 + (20 + (opts.size : Int)) / 4) 1) _ tos 1 1 hL (be_length _ _)]; omega
  have hL2 := hL; rw [← List.append_assoc] at hL2
  have q2 : at_ (bytesOf s) 2 2 = 20 + (opts.size : Int) + (data.size : Int) := by rw [A _ _ _ 2 2 hL2 (by simp [be_length])]; omega
  rw [← List.append_assoc] at hL2
  have q4 : at_ (bytesOf s) 4 2 = id := by rw [A _ _ _ 4 2 hL2 (by simp [be_length])]; omega
  rw [← List.append_assoc] at hL2
  have q6 : at_ (bytesOf s) 6 2 = bitsN df mf off := by rw [A _ _ _ 6 2 hL2 (by simp [be_length])]; omega
  rw [← List.append_assoc] at hL2
  have q8 : at_ (bytesOf s) 8 1 = ttl := by rw [A _ _ _ 8 1 hL2 (by simp [be_length])]; omega
  rw [← List.append_assoc] at hL2
  have q9 : at_ (bytesOf s) 9 1 = proto := by rw [A _ _ _ 9 1 hL2 (by simp [be_length])]; omega
  rw [← List.append_assoc] at hL2
  have q10 : at_ (bytesOf s) 10 2 = c := by rw [A _ _ _ 10 2 hL2 (by simp [be_length])]; omega
  rw [← List.append_assoc] at hL2
  have q12 : at_ (bytesOf s) 12 4 = src := by rw [A _ _ _ 12 4 hL2 (by simp [be_length])]; omega
  rw [← List.append_assoc] at hL2
  have q16 : at_ (bytesOf s) 16 4 = dst := by rw [A _ _ _ 16 4 hL2 (by simp [be_length])]; omega
  have t0 := one_bt (s := s) (i := 0) (by omega)
  have t8 := one_bt (s := s) (i := 8) (by omega)
  have t9 := one_bt (s := s) (i := 9) (by omega)
  have t10 := two_bt (s := s) (i := 10) (by omega)
  have t6 := two_bt (s := s) (i := 6) (by omega)
  have r11 := bt_range s 11; have r7 := bt_range s 7
  rw [q0] at t0; rw [q8] at t8; rw [q9] at t9; rw [q10] at t10; rw [q6] at t6
  have e0 : bt s ((0 : Nat) : Int) = bt s 0 := rfl
  have e6 : bt s ((6 : Nat) : Int) = bt s 6 := rfl
  have e7 : bt s ((6 + 1 : Nat) : Int) = bt s 7 := rfl
  have e8 : bt s ((8 : Nat) : Int) = bt s 8 := rfl
  have e9 : bt s ((9 : Nat) : Int) = bt s 9 := rfl
  have e10 : bt s ((10 : Nat) : Int) = bt s 10 := rfl
  have e11 : bt s ((10 + 1 : Nat) : Int) = bt s 11 := rfl
  rw [e0] at t0; rw [e6, e7] at t6; rw [e8] at t8; rw [e9] at t9; rw [e10, e11] at t10
  have hb15 : bitsN df mf off < 32768 := by unfold bitsN; cases df <;> cases mf <;> simp <;> omega
  have hhd : ip4_heads.hd s = 20 + (opts.size : Int) := by unfold ip4_heads.hd; omega
  have htk : (bytesOf s).take (20 + (opts.size : Int)).toNat = hdC tos id df mf off ttl proto src dst opts.size data.size c ++ bytesOf opts := by
    rw [h]; unfold pkC
    rw [List.append_assoc (hdC tos id df mf off ttl proto src dst opts.size data.size c ++ bytesOf opts)]
    exact List.take_left' (by rw [List.length_append, hdC_length, bytesOf_length]; omega)
  have hh : headsR s = (20 + (opts.size : Int), 20 + (opts.size : Int) + (data.size : Int), 0) := by
    unfold headsR headsT
    rw [hhd, q2, htk, hS, if_neg (by omega), if_neg (by omega), if_neg (by omega), if_neg (by simp), if_neg (by omega), if_neg (by omega)]
  have x1 : s.extract 20 (20 + (opts.size : Int)).toNat = opts := by
    apply MBytes.inj
    rw [MBytes.extract, h]; unfold pkC
    rw [List.append_assoc, List.append_assoc, List.drop_left' (hdC_length ..)]
    exact List.take_left' (by rw [bytesOf_length]; omega)
  have x2 : s.extract (20 + (opts.size : Int)).toNat (20 + (opts.size : Int) + (data.size : Int)).toNat = data := by
    apply MBytes.inj
    rw [MBytes.extract, h]; unfold pkC
    rw [List.append_assoc (hdC tos id df mf off ttl proto src dst opts.size data.size c ++ bytesOf opts), List.drop_left' (by rw [List.length_append, hdC_length, bytesOf_length]; omega)]
    exact List.take_left' (by rw [bytesOf_length]; omega)
  refine ⟨?_, hh, hsz, by omega, by omega, by omega, by omega⟩
  unfold takeR
  rw [hh, if_neg (by simp), hhd, x1, a10, if_neg (by simp)]
  unfold pkt
  rw [hhd, q1, q2, q4, q6, q8, q9, q12, q16, x1, x2]
  have z1 : (bitsN df mf off / 16384 == 1) = df := by unfold bitsN; cases df <;> cases mf <;> simp <;> omega
  have z2 : (bitsN df mf off / 8192 % 2 == 1) = mf := by unfold bitsN; cases df <;> cases mf <;> simp <;> omega
  have z3 : bitsN df mf off % 8192 = off := by unfold bitsN; cases df <;> cases mf <;> simp <;> omega
  rw [z1, z2, z3]
/-- What is cut short is none. -/
theorem take_cut {s : ByteArray} (hn : at_ (bytesOf s) 2 2 = (s.size : Int)) {n : Nat} (hc : n < s.size) : ¬ (takeR (s.extract 0 n)).2.2.2.2.2.2.2.2.2.2.2.2.2.2.2 = 0 := by
  have hx : bytesOf (s.extract 0 n) = (bytesOf s).take n := by rw [MBytes.extract]; simp
  have hz : (s.extract 0 n).size = n := by rw [← bytesOf_length, hx, List.length_take, bytesOf_length]; omega
  have h0 : ¬ (headsR (s.extract 0 n)).2.2 = 0 := by
    intro h
    obtain ⟨g1, _, _, _, _, _, _, g8, _⟩ := heads_ok h
    have h4 : at_ (bytesOf (s.extract 0 n)) 2 2 = (s.size : Int) := by
      rw [hx, ← hn]
      unfold at_
      rw [List.drop_take, List.take_take, Nat.min_eq_left (by omega)]
    omega
  unfold takeR
  rw [if_pos h0]
  exact h0
end Go.Proofs.YtaoopneiglgnkaaDoor.Pure4
