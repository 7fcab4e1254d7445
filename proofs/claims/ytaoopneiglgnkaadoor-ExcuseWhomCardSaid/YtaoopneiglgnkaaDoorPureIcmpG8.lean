/-
  Several texts in one. Conditions: those of each theorem.
-/
import Derived.Test.YtaoopneiglgnkaaDoorPBasex12
import Derived.Test.YtaoopneiglgnkaaDoorMTally
import Derived.Test.YtaoopneiglgnkaaDoorMBe
import Derived.Laws.BitsLemmas
import Derived.Test.YtaoopneiglgnkaaDoorMBytes
set_option linter.unusedVariables false
set_option linter.unusedSimpArgs false
set_option linter.unusedSectionVars false
namespace Go.Proofs.YtaoopneiglgnkaaDoor.PureT8
open Go.RowKit Go.Proofs.YtaoopneiglgnkaaDoor.PBase Go.Proofs.YtaoopneiglgnkaaDoorW.PrintWords Go.Proofs.YtaoopneiglgnkaaDoorW.PrintLast Go.Proofs.YtaoopneiglgnkaaDoorW.PrintMore Go.Proofs.YtaoopneiglgnkaaDoor.MTally Go.Proofs.YtaoopneiglgnkaaDoor.MBe
/-! What the printed functions of tally and of the reference come to. -/
theorem w64 {n : Int} (h0 : -9223372036854775808 ≤ n) (h1 : n ≤ 9223372036854775807) : wrap64 n = n := by unfold wrap64; omega
theorem w16 {n : Int} (h0 : 0 ≤ n) (h1 : n ≤ 65535) : IntKind.u16.wrap n = n := by
  simp only [IntKind.wrap, IntKind.signed, IntKind.bits, Bool.false_and, Bool.false_eq_true, if_false]; omega
theorem w16' (n : Int) : IntKind.u16.wrap n = n % 65536 := by
  simp only [IntKind.wrap, IntKind.signed, IntKind.bits, Bool.false_and, Bool.false_eq_true, if_false]; rfl
theorem ev_pos {α : Type} {c : Prop} [Decidable c] {f g : Nat → Option α} {r : α} (hc : c) (h : Ev f r) : Ev (fun k => if c then f k else g k) r := by
  simp only [if_pos hc]; exact h
theorem ev_neg {α : Type} {c : Prop} [Decidable c] {f g : Nat → Option α} {r : α} (hc : ¬ c) (h : Ev g r) : Ev (fun k => if c then f k else g k) r := by
  simp only [if_neg hc]; exact h
theorem ev_eq {α : Type} {f : Nat → Option α} {r : α} (h : ∀ k, f k = some r) : Ev f r := ⟨0, fun k _ => h k⟩
theorem ev_bind {α β : Type} {o : Option α} {f : Nat → α → Option β} {a : α} {r : β} (h : o = some a) (k : Ev (fun n => f n a) r) : Ev (fun n => o.bind (f n)) r := by
  subst h; exact k
theorem add_eq {a b : Int} (ha : R a) (hb : R b) : tally_Add.f a b = some (oadd a b) := by
  unfold R at ha hb
  unfold tally_Add.f oadd
  rw [w16']
  congr 1
  split <;> omega
theorem rd_at {xs : List Int} {i : Nat} (h : i < xs.length) : rd xs (i : Int) = xs[i] := by
  simp [rd, List.getElem?_eq_getElem h]
theorem byte_at {xs : List Int} (hb : Bytes xs) {i : Nat} (h : i < xs.length) : 0 ≤ xs[i] ∧ xs[i] ≤ 255 := hb _ (List.getElem_mem h)
/-- A toggled flag. -/
def tog (hi : Bool) (d : Nat) : Bool := if d % 2 = 0 then hi else !hi
theorem tog_succ (hi : Bool) (d : Nat) : tog (!hi) d = tog hi (d + 1) := by
  unfold tog
  by_cases h : d % 2 = 0
  · rw [if_pos h, if_neg (by omega)]
  · rw [if_neg h, if_pos (by omega)]; cases hi <;> rfl
theorem sum_l1 (x0 : List (List Int)) (len j r : Int) (row : List Int) (hb : Bytes row) (hl : row.length ≤ 140737488351232) : ∀ (d i : Nat) (n : Int) (hi : Bool), row.length = i + d → R n →
    Ev (fun k => tally_Sum.l0 k x0 (sumB n hi (row.drop i)) (tog hi d) len (wrap64 (j + 1))) r →
    Ev (fun k => tally_Sum.l1 k x0 n hi len j row (row.length : Int) (i : Int)) r := by
  intro d
  induction d with
  | zero =>
    intro i n hi he hn h
    refine Ev.step (f := fun k => tally_Sum.l0 k x0 n hi len (wrap64 (j + 1))) (fun k => ?_) ?_
    · simp only [tally_Sum.l1]; rw [if_neg (by omega)]
    · have e : row.drop i = [] := List.drop_eq_nil_of_le (by omega)
      rw [e] at h; exact h
  | succ d ih =>
    intro i n hi he hn h
    have hlt : i < row.length := by omega
    have hc := byte_at hb hlt
    have ed : row.drop i = row[i] :: row.drop (i + 1) := List.drop_eq_getElem_cons hlt
    rw [ed] at h
    have hw : wrap64 ((i : Int) + 1) = ((i + 1 : Nat) : Int) := by rw [w64 (by omega) (by omega)]; omega
    cases hi with
    | true =>
      refine Ev.step (f := fun k => tally_Sum.l1 k x0 (oadd n (row[i] * 256)) false len j row (row.length : Int) ((i + 1 : Nat) : Int)) (fun k => ?_) ?_
      · simp only [tally_Sum.l1]
        rw [if_pos (by omega), if_pos (by omega), if_pos (by omega), if_pos trivial, rd_at hlt, w16 (n := row[i]) (by omega) (by omega), w16 (by omega) (by omega), add_eq hn (by unfold R; omega)]
        simp only [Option.bind_some, Bool.not_true]; rw [hw]
      · exact ih (i + 1) _ _ (by omega) (oadd_R hn (by unfold R; omega)) (by rw [show tog false d = tog true (d + 1) from tog_succ true d]; exact h)
    | false =>
      refine Ev.step (f := fun k => tally_Sum.l1 k x0 (oadd n row[i]) true len j row (row.length : Int) ((i + 1 : Nat) : Int)) (fun k => ?_) ?_
      · simp only [tally_Sum.l1]
        rw [if_pos (by omega), if_pos (by omega), if_pos (by omega), if_neg (by decide), rd_at hlt, w16 (n := row[i]) (by omega) (by omega), add_eq hn (by unfold R; omega)]
        simp only [Option.bind_some, Bool.not_false]; rw [hw]
      · exact ih (i + 1) _ _ (by omega) (oadd_R hn (by unfold R; omega)) (by rw [show tog true d = tog false (d + 1) from tog_succ false d]; exact h)
theorem sum_l0 (x0 : List (List Int)) (hb : ∀ p ∈ x0, Bytes p ∧ p.length ≤ 140737488351232) (hl : x0.length ≤ 140737488351232) : ∀ (d j : Nat) (n : Int) (hi : Bool), x0.length = j + d → R n →
    Ev (fun k => tally_Sum.l0 k x0 n hi (x0.length : Int) (j : Int)) (sumB n hi (x0.drop j).flatten) := by
  intro d
  induction d with
  | zero =>
    intro j n hi he hn
    have e : x0.drop j = [] := List.drop_eq_nil_of_le (by omega)
    rw [e]
    refine Ev.step (f := fun k => some n) (fun k => ?_) (Ev.now _)
    simp only [tally_Sum.l0]; rw [if_neg (by omega)]
  | succ d ih =>
    intro j n hi he hn
    have hlt : j < x0.length := by omega
    have ed : x0.drop j = x0[j] :: x0.drop (j + 1) := List.drop_eq_getElem_cons hlt
    have hr : rd_L1 x0 (j : Int) = x0[j] := by simp [rd_L1, List.getElem?_eq_getElem hlt]
    have hm := hb _ (List.getElem_mem hlt)
    have hw : wrap64 ((j : Int) + 1) = ((j + 1 : Nat) : Int) := by rw [w64 (by omega) (by omega)]; omega
    rw [ed, List.flatten_cons, sumB_append]
    refine Ev.step (f := fun k => tally_Sum.l1 k x0 n hi (x0.length : Int) (j : Int) x0[j] (x0[j].length : Int) ((0 : Nat) : Int)) (fun k => ?_) ?_
    · simp only [tally_Sum.l0]
      rw [if_pos (by omega), if_pos (by omega), if_pos (by omega), hr]; rfl
    · refine sum_l1 x0 _ _ _ _ hm.1 hm.2 x0[j].length 0 n hi (by omega) hn ?_
      rw [hw, List.drop_zero]
      exact ih (j + 1) _ _ (by omega) (sumB_R hn hm.1)
theorem sum_ev (x0 : List (List Int)) (hb : ∀ p ∈ x0, Bytes p ∧ p.length ≤ 140737488351232) (hl : x0.length ≤ 140737488351232) : Ev (fun k => tally_Sum.f k x0) (S x0.flatten) := by
  have h := sum_l0 x0 hb hl x0.length 0 0 true (by omega) R_zero
  have hf : Bytes x0.flatten := fun y hy => by
    obtain ⟨p, hp, hy⟩ := List.mem_flatten.1 hy
    exact (hb p hp).1 y hy
  rw [List.drop_zero, sumB_S hf] at h
  exact h
theorem flat_bytes {x0 : List (List Int)} (hb : ∀ p ∈ x0, Bytes p ∧ p.length ≤ 140737488351232) : Bytes x0.flatten := fun y hy => by
  obtain ⟨p, hp, hy⟩ := List.mem_flatten.1 hy
  exact (hb p hp).1 y hy
theorem one_part {p : List Int} (hp : Bytes p) (hl : p.length ≤ 140737488351232) : ∀ q ∈ [p], Bytes q ∧ q.length ≤ 140737488351232 := by
  intro q hq; simp only [List.mem_singleton] at hq; subst hq; exact ⟨hp, hl⟩
theorem sum1_ev {p : List Int} (hp : Bytes p) (hl : p.length ≤ 140737488351232) : Ev (fun k => tally_Sum.f k [p]) (S p) := by
  have h := sum_ev [p] (one_part hp hl) (by simp)
  simpa using h
/-! What 'laid' of tally lays: the lowest bytes of a number. -/
theorem pow_bits (i : Nat) : (2 : Int) ^ (8 * i) = 256 ^ i := by rw [Int.pow_mul]; rfl
theorem set_rep (d : Nat) (v : Int) (l : List Int) : (List.replicate (d + 1) 0 ++ l).set d v = List.replicate d 0 ++ v :: l := by
  rw [List.replicate_succ', List.append_assoc, List.set_append_right _ _ (by simp)]
  simp
theorem laid_l0 (n : Int) (w : Nat) (hw : w ≤ 8) : ∀ d i : Nat, w = i + d → Ev (fun k => tally_laid.l0 k n (w : Int) (List.replicate d 0 ++ be n i) (w : Int) (i : Int)) (be n w) := by
  intro d
  induction d with
  | zero =>
    intro i h
    refine Ev.step (f := fun _ => some (be n i)) (fun k => ?_) (by rw [show w = i by omega]; exact Ev.now _)
    simp only [tally_laid.l0]; rw [if_neg (by omega)]; simp
  | succ d ih =>
    intro i h
    refine Ev.step (f := fun k => tally_laid.l0 k n (w : Int) (List.replicate d 0 ++ be n (i + 1)) (w : Int) ((i + 1 : Nat) : Int)) (fun k => ?_) (ih (i + 1) (by omega))
    simp only [tally_laid.l0]
    have e1 : wrap64 (8 * (i : Int)) = ((8 * i : Nat) : Int) := by rw [w64 (by omega) (by omega)]; omega
    have e2 : wrap64 ((w : Int) - 1) = (w : Int) - 1 := w64 (by omega) (by omega)
    have e3 : wrap64 ((w : Int) - 1 - (i : Int)) = (d : Int) := by rw [w64 (by omega) (by omega)]; omega
    have e4 : wrap64 ((i : Int) + 1) = ((i + 1 : Nat) : Int) := by rw [w64 (by omega) (by omega)]; omega
    have e5 : shr .u64 n ((8 * i : Nat) : Int) = n / 256 ^ i := by
      unfold shr
      rw [Int.toNat_natCast, Nat.min_eq_left (by simp [IntKind.bits]; omega), pow_bits]
    rw [if_pos (by omega), e2, e3, e1, e4, if_pos (by omega), if_pos (by omega), if_pos (by simp only [List.length_append, List.length_replicate, be_length]; omega), Int.toNat_natCast, e5, set_rep]
    rfl
theorem laid_ev (n : Int) (w : Nat) (hw : w ≤ 8) : Ev (fun k => tally_laid.f k n (w : Int)) (be n w) := by
  unfold tally_laid.f
  refine ev_pos (by omega) (ev_pos (by rw [Int.toNat_natCast]; omega) ?_)
  have h := laid_l0 n w hw w 0 (by omega)
  simpa [be] using h
/-! The sum of two ends, by the program and by the reference. -/
/-- A number of 64 bits without a sign. -/
def U (n : Int) : Prop := 0 ≤ n ∧ n ≤ 18446744073709551615
theorem U_of_wf {a : Int} (h : (Lit.int .u64 a).wf = true) : U a := by
  have := h
  simp [Lit.wf, IntKind.min, IntKind.max, IntKind.signed, IntKind.bits] at this
  exact this
theorem wu64 (n : Int) : IntKind.u64.wrap n = n % 18446744073709551616 := by
  simp only [IntKind.wrap, IntKind.signed, IntKind.bits, Bool.false_and, Bool.false_eq_true, if_false]; rfl
theorem U_wrap (n : Int) : U (IntKind.u64.wrap n) := by rw [wu64]; unfold U; omega
/-- The bytes that stand for two ends. -/
def ends (six : Bool) (f_hi f_lo t_hi t_lo len proto : Int) : List Int :=
  if six = true then be f_hi 8 ++ (be f_lo 8 ++ (be t_hi 8 ++ (be t_lo 8 ++ (be (IntKind.u64.wrap len) 4 ++ ([0, 0, 0] ++ [proto % 256])))))
  else be f_lo 4 ++ (be t_lo 4 ++ ([0, proto % 256] ++ be (IntKind.u64.wrap len) 2))
theorem bb (n : Int) (w : Nat) : Bytes (be n w) := be_bytes n w
theorem bone (n : Int) : Bytes [n % 256] := by intro x hx; simp only [List.mem_singleton] at hx; omega
theorem bz : Bytes [0, 0, 0] := by intro x hx; simp at hx; omega
theorem b0p (n : Int) : Bytes [0, n % 256] := by intro x hx; simp at hx; omega
theorem ends_bytes (six : Bool) (f_hi f_lo t_hi t_lo len proto : Int) : Bytes (ends six f_hi f_lo t_hi t_lo len proto) := by
  unfold ends
  split
  · exact (bb _ _).append ((bb _ _).append ((bb _ _).append ((bb _ _).append ((bb _ _).append (bz.append (bone _))))))
  · exact (bb _ _).append ((bb _ _).append ((b0p _).append (bb _ _)))
theorem pseudo_ev (f_six : Bool) (f_hi f_lo : Int) (t_six : Bool) (t_hi t_lo len proto : Int) (h1 : U f_hi) (h2 : U f_lo) (h3 : U t_hi) (h4 : U t_lo) :
    Ev (fun k => tally_Pseudo.f k f_six f_hi f_lo t_six t_hi t_lo len proto) (S (ends f_six f_hi f_lo t_hi t_lo len proto)) := by
  unfold tally_Pseudo.f
  refine ev_bind (a := [0, proto % 256]) rfl ?_
  have small : ∀ {w : Nat}, w ≤ 8 → ∀ n : Int, Bytes (be n w) ∧ (be n w).length ≤ 140737488351232 := fun h n => ⟨be_bytes n _, by rw [be_length]; omega⟩
  cases f_six with
  | true =>
    refine ev_pos rfl (Ev.bind (laid_ev f_hi 8 (by omega)) (Ev.bind (laid_ev f_lo 8 (by omega)) (Ev.bind (laid_ev t_hi 8 (by omega)) (Ev.bind (laid_ev t_lo 8 (by omega)) (Ev.bind (laid_ev (IntKind.u64.wrap len) 4 (by omega)) (Ev.bind (laid_ev 0 2 (by omega)) (Ev.bind (sum_ev _ ?_ (by simp)) ?_)))))))
    · intro p hp
      simp only [List.mem_cons, List.not_mem_nil, or_false] at hp
      rcases hp with rfl | rfl | rfl | rfl | rfl | rfl | rfl
      · exact small (by omega) _
      · exact small (by omega) _
      · exact small (by omega) _
      · exact small (by omega) _
      · exact small (by omega) _
      · exact small (by omega) _
      · exact ⟨b0p _, by simp⟩
    · refine ev_eq fun k => ?_
      congr 2
  | false =>
    refine ev_neg (by decide) (Ev.bind (laid_ev f_lo 4 (by omega)) (Ev.bind (laid_ev t_lo 4 (by omega)) (Ev.bind (laid_ev (IntKind.u64.wrap len) 2 (by omega)) (Ev.bind (sum_ev _ ?_ (by simp)) ?_))))
    · intro p hp
      simp only [List.mem_cons, List.not_mem_nil, or_false] at hp
      rcases hp with rfl | rfl | rfl | rfl
      · exact small (by omega) _
      · exact small (by omega) _
      · exact ⟨b0p _, by simp⟩
      · exact small (by omega) _
    · refine ev_eq fun k => ?_
      congr 2
end Go.Proofs.YtaoopneiglgnkaaDoor.PureT8
namespace Go.Proofs.YtaoopneiglgnkaaDoor.Pure8
open Go.RowKit Go.Proofs.YtaoopneiglgnkaaDoor.PBase Go.Proofs.YtaoopneiglgnkaaDoorW.PrintWords Go.Proofs.YtaoopneiglgnkaaDoorW.PrintLast Go.Proofs.YtaoopneiglgnkaaDoor.MTally Go.Proofs.YtaoopneiglgnkaaDoor.MBe
/-! Small steps for what printed functions come to. -/
theorem w64 {n : Int} (h0 : -9223372036854775808 ≤ n) (h1 : n ≤ 9223372036854775807) : wrap64 n = n := by unfold wrap64; omega
theorem wu64 {n : Int} (h0 : 0 ≤ n) (h1 : n < 18446744073709551616) : IntKind.u64.wrap n = n := by
  simp only [IntKind.wrap, IntKind.signed, IntKind.bits, Bool.false_and, Bool.false_eq_true, if_false]; omega
theorem wu64' (n : Int) : IntKind.u64.wrap n = n % 18446744073709551616 := by
  simp only [IntKind.wrap, IntKind.signed, IntKind.bits, Bool.false_and, Bool.false_eq_true, if_false]; rfl
theorem wu32 {n : Int} (h0 : 0 ≤ n) (h1 : n < 4294967296) : IntKind.u32.wrap n = n := by
  simp only [IntKind.wrap, IntKind.signed, IntKind.bits, Bool.false_and, Bool.false_eq_true, if_false]; omega
theorem wu16 {n : Int} (h0 : 0 ≤ n) (h1 : n < 65536) : IntKind.u16.wrap n = n := by
  simp only [IntKind.wrap, IntKind.signed, IntKind.bits, Bool.false_and, Bool.false_eq_true, if_false]; omega
theorem wu8 {n : Int} (h0 : 0 ≤ n) (h1 : n < 256) : IntKind.u8.wrap n = n := by
  simp only [IntKind.wrap, IntKind.signed, IntKind.bits, Bool.false_and, Bool.false_eq_true, if_false]; omega
theorem ev_pos {α : Type} {c : Prop} [Decidable c] {f g : Nat → Option α} {r : α} (hc : c) (h : Ev f r) : Ev (fun k => if c then f k else g k) r := by
  simp only [if_pos hc]; exact h
theorem ev_neg {α : Type} {c : Prop} [Decidable c] {f g : Nat → Option α} {r : α} (hc : ¬ c) (h : Ev g r) : Ev (fun k => if c then f k else g k) r := by
  simp only [if_neg hc]; exact h
theorem ev_eq {α : Type} {f : Nat → Option α} {r : α} (h : ∀ k, f k = some r) : Ev f r := ⟨0, fun k _ => h k⟩
theorem ev_bind {α β : Type} {o : Option α} {f : Nat → α → Option β} {a : α} {r : β} (h : o = some a) (k : Ev (fun n => f n a) r) : Ev (fun n => o.bind (f n)) r := by
  subst h; exact k
theorem rd_at {xs : List Int} {i : Nat} (h : i < xs.length) : rd xs (i : Int) = xs[i] := by
  simp [rd, List.getElem?_eq_getElem h]
theorem byte_at {xs : List Int} (hb : Bytes xs) {i : Nat} (h : i < xs.length) : 0 ≤ xs[i] ∧ xs[i] ≤ 255 := hb _ (List.getElem_mem h)
theorem byte_of_wf {a : Int} (h : (Lit.int .u8 a).wf = true) : 0 ≤ a ∧ a ≤ 255 := by
  have := h
  simp [Lit.wf, IntKind.min, IntKind.max, IntKind.signed, IntKind.bits] at this
  exact this
theorem i64_of_wf {a : Int} (h : (Lit.int .i64 a).wf = true) : -9223372036854775808 ≤ a ∧ a ≤ 9223372036854775807 := by
  have := h
  simp [Lit.wf, IntKind.min, IntKind.max, IntKind.signed, IntKind.bits] at this
  exact this
theorem u64_of_wf {a : Int} (h : (Lit.int .u64 a).wf = true) : 0 ≤ a ∧ a ≤ 18446744073709551615 := by
  have := h
  simp [Lit.wf, IntKind.min, IntKind.max, IntKind.signed, IntKind.bits] at this
  exact this
theorem u32_of_wf {a : Int} (h : (Lit.int .u32 a).wf = true) : 0 ≤ a ∧ a ≤ 4294967295 := by
  have := h
  simp [Lit.wf, IntKind.min, IntKind.max, IntKind.signed, IntKind.bits] at this
  exact this
theorem u16_of_wf {a : Int} (h : (Lit.int .u16 a).wf = true) : 0 ≤ a ∧ a ≤ 65535 := by
  have := h
  simp [Lit.wf, IntKind.min, IntKind.max, IntKind.signed, IntKind.bits] at this
  exact this
theorem bytes_of_wf {l : List Int} (h : ∀ x ∈ l, (Lit.int .u8 x).wf = true) : Bytes l := fun x hx => byte_of_wf (h x hx)
/-! octet.Get: the number at a place, or none. -/
def fits (l : List Int) (at_ w : Int) : Prop := 0 ≤ w ∧ w ≤ 8 ∧ 0 ≤ at_ ∧ at_ + w ≤ (l.length : Int)
instance (l : List Int) (a w : Int) : Decidable (fits l a w) := by unfold fits; infer_instance
def slice_ (l : List Int) (at_ w : Int) : List Int := (l.drop at_.toNat).take w.toNat
def get (l : List Int) (at_ w : Int) : Int × Bool := if fits l at_ w then (num (slice_ l at_ w), true) else (0, false)
theorem slice_length {l : List Int} {a w : Int} (h : fits l a w) : (slice_ l a w).length = w.toNat := by
  unfold fits at h; unfold slice_; rw [List.length_take, List.length_drop]; omega
theorem slice_bytes {l : List Int} (hb : Bytes l) (a w : Int) : Bytes (slice_ l a w) := (hb.drop _).take _
theorem p256 {i : Nat} (h : i ≤ 8) : (256 : Int) ^ i ≤ 18446744073709551616 := by
  rcases i with _ | _ | _ | _ | _ | _ | _ | _ | _ | i <;> first | decide | (exfalso; omega)
theorem p256' {i : Nat} (h : i ≤ 7) : (256 : Int) ^ i ≤ 72057594037927936 := by
  rcases i with _ | _ | _ | _ | _ | _ | _ | _ | i <;> first | decide | (exfalso; omega)
theorem num_lt {l : List Int} (hb : Bytes l) (h : l.length ≤ 7) : 0 ≤ num l ∧ num l < 72057594037927936 := by
  have h1 := num_range hb; have h2 := p256' h; exact ⟨h1.1, Int.lt_of_lt_of_le h1.2 h2⟩
theorem num_lt8 {l : List Int} (hb : Bytes l) (h : l.length ≤ 8) : 0 ≤ num l ∧ num l < 18446744073709551616 := by
  have h1 := num_range hb; have h2 := p256 h; exact ⟨h1.1, Int.lt_of_lt_of_le h1.2 h2⟩
theorem or_byte {n b : Int} (h0 : 0 ≤ n) (h1 : n < 72057594037927936) (hb : 0 ≤ b ∧ b ≤ 255) : Go.bits .or .u64 (IntKind.u64.wrap (n * 256)) (IntKind.u64.wrap b) = n * 256 + b := by
  rw [wu64 (n := n * 256) (by omega) (by omega), wu64 (n := b) (by omega) (by omega)]
  refine bits_join .u64 64 (by decide) (fun m h2 h3 => wu64 h2 (by omega)) 8 _ _ (by omega) (by omega) (by omega) hb.1 (by omega) (by omega)
theorem take_snoc {l : List Int} {a i : Nat} (h : a + i < l.length) : (l.drop a).take (i + 1) = (l.drop a).take i ++ [l[a + i]] := by
  rw [List.take_add_one]
  congr 1
  rw [List.getElem?_drop, List.getElem?_eq_getElem h]; rfl
theorem get_l0 {l : List Int} (hb : Bytes l) (hl : l.length ≤ 140737488355200) {a w : Nat} (hw : w ≤ 8) (hf : a + w ≤ l.length) : ∀ d i : Nat, w = i + d →
    Ev (fun k => octet_Get.l0 k l (a : Int) (num ((l.drop a).take i)) (w : Int) (i : Int)) (num ((l.drop a).take w), true) := by
  intro d
  induction d with
  | zero =>
    intro i he
    have e : i = w := by omega
    subst e
    refine Ev.step (f := fun _ => _) (fun k => ?_) (Ev.now _)
    simp only [octet_Get.l0]; rw [if_neg (by omega)]
  | succ d ih =>
    intro i he
    have hlt : a + i < l.length := by omega
    have hbt := byte_at hb hlt
    have hn := num_lt (l := (l.drop a).take i) ((hb.drop _).take _) (by rw [List.length_take]; omega)
    refine Ev.step (f := fun k => octet_Get.l0 k l (a : Int) (num ((l.drop a).take (i + 1))) (w : Int) ((i + 1 : Nat) : Int)) (fun k => ?_) (ih (i + 1) (by omega))
    simp only [octet_Get.l0]
    rw [if_pos (by omega), w64 (n := (a : Int) + (i : Int)) (by omega) (by omega), if_pos (by omega), if_pos (by omega), w64 (n := (i : Int) + 1) (by omega) (by omega)]
    rw [show (a : Int) + (i : Int) = ((a + i : Nat) : Int) by omega, rd_at hlt, or_byte hn.1 hn.2 hbt, take_snoc hlt, num_snoc]; rfl
theorem get_ev {l : List Int} (hb : Bytes l) (hl : l.length ≤ 140737488355200) {a w : Int} (ha : -9223372036854775808 ≤ a ∧ a ≤ 9223372036854775807) (hw : -9223372036854775808 ≤ w ∧ w ≤ 9223372036854775807) :
    Ev (fun k => octet_Get.f k l a w) (get l a w) := by
  have none_ : ∀ k x0 x1 x2, octet_Get.j0 (k + 1) x0 x1 x2 true = some (0, false) := fun k x0 x1 x2 => by simp only [octet_Get.j0]; rw [if_pos trivial]
  have bad : ∀ {a' w' : Int}, Ev (fun k => octet_Get.j0 k l a' w' true) (0, false) := Ev.step (f := fun _ => _) (fun k => none_ k _ _ _) (Ev.now _)
  unfold octet_Get.f get
  by_cases h1 : w < 0
  · rw [if_neg (by unfold fits; omega)]; exact ev_pos h1 bad
  refine ev_neg h1 ?_
  by_cases h2 : w > 8
  · rw [if_neg (by unfold fits; omega)]; exact ev_pos h2 bad
  refine ev_neg h2 ?_
  by_cases h3 : a < 0
  · rw [if_neg (by unfold fits; omega)]; exact ev_pos h3 bad
  refine ev_neg h3 ?_
  by_cases h4 : a > (l.length : Int)
  · rw [if_neg (by unfold fits; omega)]; exact ev_pos h4 bad
  refine ev_neg h4 ?_
  rw [w64 (n := (l.length : Int) - a) (by omega) (by omega)]
  by_cases h5 : w > (l.length : Int) - a
  · rw [if_neg (by unfold fits; omega), decide_eq_true h5]; exact bad
  rw [if_pos (by unfold fits; omega), decide_eq_false h5]
  obtain ⟨an, rfl⟩ := Int.eq_ofNat_of_zero_le (show 0 ≤ a by omega)
  obtain ⟨wn, rfl⟩ := Int.eq_ofNat_of_zero_le (show 0 ≤ w by omega)
  have h := get_l0 hb hl (a := an) (w := wn) (by omega) (by omega) wn 0 (by omega)
  refine Ev.step (f := fun k => octet_Get.l0 k l (an : Int) 0 (wn : Int) 0) (fun k => ?_) ?_
  · simp only [octet_Get.j0]; rw [if_neg (by decide)]
  · exact h
end Go.Proofs.YtaoopneiglgnkaaDoor.Pure8
namespace Go.Proofs.YtaoopneiglgnkaaDoor.Pure8
open Go.RowKit Go.Proofs.YtaoopneiglgnkaaDoor.PBase Go.Proofs.YtaoopneiglgnkaaDoorW.PrintWords Go.Proofs.YtaoopneiglgnkaaDoorW.PrintLast Go.Proofs.YtaoopneiglgnkaaDoorW.PrintMore Go.Proofs.YtaoopneiglgnkaaDoor.MTally Go.Proofs.YtaoopneiglgnkaaDoor.MBe
theorem M_bytes (kind code rest : Int) (data : ByteArray) (check : Int) : Bytes (icmp_base_bytes.of kind code rest data check) := by
  unfold icmp_base_bytes.of
  refine ((Bytes.append (Bytes.append ?_ (be_bytes _ _)) (be_bytes _ _))).append (MBytes.range _)
  intro x hx
  simp only [List.mem_cons, List.not_mem_nil, or_false] at hx
  omega
/-- What else is summed up with a message. -/
def ps (six b1 : Bool) (h1 l1 h2 l2 n : Int) : Int := if six = true then S (PureT8.ends b1 h1 l1 h2 l2 n 58) else 0
theorem ps_R (six b1 : Bool) (h1 l1 h2 l2 n : Int) : R (ps six b1 h1 l1 h2 l2 n) := by
  unfold ps; split
  · exact S_R (PureT8.ends_bytes _ _ _ _ _ _ _)
  · exact R_zero
theorem side_ev {h1 l1 h2 l2 : Int} (u1 : PureT8.U h1) (u2 : PureT8.U l1) (u3 : PureT8.U h2) (u4 : PureT8.U l2) (six b1 b2 : Bool) (n : Int) : Ev (fun k => icmp_Lay.side k six b1 h1 l1 b2 h2 l2 n) (ps six b1 h1 l1 h2 l2 n) := by
  unfold icmp_Lay.side ps
  by_cases h : six = true
  · rw [if_pos h]; exact ev_pos h (PureT8.pseudo_ev b1 h1 l1 b2 h2 l2 n 58 u1 u2 u3 u4)
  · rw [if_neg h]; exact ev_neg h (ev_eq fun _ => rfl)
def may (kind code rest : Int) (n : Nat) : Bool := decide (0 ≤ kind ∧ kind < 256 ∧ 0 ≤ code ∧ code < 256 ∧ 0 ≤ rest ∧ rest < 4294967296 ∧ n ≤ 65000)
theorem may_eq (s : Bool) (kind code rest : Int) (data : ByteArray) (b1 : Bool) (h1 l1 : Int) (b2 : Bool) (h2 l2 : Int) : icmp_base_may.f s kind code rest data b1 h1 l1 b2 h2 l2 = some (may kind code rest data.size) := by
  unfold icmp_base_may.f may
  repeat' split
  all_goals (congr 1; first | (apply decide_eq_decide.2; omega) | (symm; apply decide_eq_false; omega))
theorem may_size {kind code rest : Int} {n : Nat} (h : may kind code rest n = true) : (0 ≤ kind ∧ kind < 256) ∧ (0 ≤ code ∧ code < 256) ∧ (0 ≤ rest ∧ rest < 4294967296) ∧ n ≤ 65000 := by
  have := of_decide_eq_true h; omega
/-- The check of a message. -/
def chk (six : Bool) (kind code rest : Int) (data : ByteArray) (b1 : Bool) (h1 l1 h2 l2 : Int) : Int := 65535 - oadd (ps six b1 h1 l1 h2 l2 (8 + (data.size : Int))) (S (icmp_base_bytes.of kind code rest data 0))
theorem chk_R (six : Bool) (kind code rest : Int) (data : ByteArray) (b1 : Bool) (h1 l1 h2 l2 : Int) : R (chk six kind code rest data b1 h1 l1 h2 l2) := R_compl (oadd_R (ps_R ..) (S_R (M_bytes _ _ _ _ _)))
def layR (six : Bool) (kind code rest : Int) (data : ByteArray) (b1 : Bool) (h1 l1 : Int) (b2 : Bool) (h2 l2 : Int) : ByteArray × Int :=
  if six = true ∧ (b1 && b2) = false then (⟨#[]⟩, 70) else if may kind code rest data.size = false then (⟨#[]⟩, 70) else
  (strOfNums (icmp_base_bytes.of kind code rest data (chk six kind code rest data b1 h1 l1 h2 l2)), 0)
theorem lay_ev {h1 l1 h2 l2 : Int} (u1 : PureT8.U h1) (u2 : PureT8.U l1) (u3 : PureT8.U h2) (u4 : PureT8.U l2) (six : Bool) (kind code rest : Int) (data : ByteArray) (b1 b2 : Bool) : Ev (fun k => icmp_Lay.f k six kind code rest data b1 h1 l1 b2 h2 l2) (layR six kind code rest data b1 h1 l1 b2 h2 l2) := by
  unfold icmp_Lay.f layR
  by_cases ho : six = true ∧ (b1 && b2) = false
  · rw [if_pos ho]; exact ev_pos ho (ev_eq fun _ => rfl)
  rw [if_neg ho]
  refine ev_neg ho (ev_bind (may_eq ..) ?_)
  by_cases hm : may kind code rest data.size = false
  · rw [if_pos hm]; exact ev_pos hm (ev_eq fun _ => rfl)
  rw [if_neg hm]
  have hs := may_size (by simpa using hm)
  have hl := icmp_base_bytes.of_length kind code rest data 0
  have hR := chk_R six kind code rest data b1 h1 l1 h2 l2
  have hR2 := oadd_R (ps_R six b1 h1 l1 h2 l2 (8 + (data.size : Int))) (S_R (M_bytes kind code rest data 0))
  refine ev_neg hm (Ev.bind (side_ev u1 u2 u3 u4 six b1 b2 _) (Ev.bind (PureT8.sum1_ev (M_bytes kind code rest data 0) (by omega)) (ev_bind (PureT8.add_eq (ps_R ..) (S_R (M_bytes _ _ _ _ _))) (ev_pos ?_ (ev_eq fun _ => rfl)))))
  unfold R at hR2; omega
/-- What icmp.Take comes to. -/
def takeR (s : ByteArray) (six b1 : Bool) (h1 l1 : Int) (b2 : Bool) (h2 l2 : Int) : Bool × Int × Int × Int × ByteArray × Int :=
  if six = true ∧ (b1 && b2) = false then (false, 0, 0, 0, ⟨#[]⟩, 70) else
  if s.size < 8 then (false, 0, 0, 0, ⟨#[]⟩, 71) else
  if oadd (ps six b1 h1 l1 h2 l2 (s.size : Int)) (S (bytesOf s)) ≠ 65535 then (false, 0, 0, 0, ⟨#[]⟩, 72) else
  if 65008 < s.size then (false, 0, 0, 0, ⟨#[]⟩, 70) else
  (six, bt s 0, bt s 1, num (((bytesOf s).drop 4).take 4), s.extract 8 s.size, 0)
theorem num4 {l : List Int} (hb : Bytes l) : 0 ≤ num ((l.drop 4).take 4) ∧ num ((l.drop 4).take 4) < 4294967296 := by
  have h := num_range (l := (l.drop 4).take 4) ((hb.drop _).take _)
  have hl : ((l.drop 4).take 4).length ≤ 4 := by rw [List.length_take]; omega
  have h5 : ((l.drop 4).take 4).length = 0 ∨ ((l.drop 4).take 4).length = 1 ∨ ((l.drop 4).take 4).length = 2 ∨ ((l.drop 4).take 4).length = 3 ∨ ((l.drop 4).take 4).length = 4 := by omega
  rcases h5 with e | e | e | e | e <;> rw [e] at h <;> omega
theorem take_ev {h1 l1 h2 l2 : Int} (u1 : PureT8.U h1) (u2 : PureT8.U l1) (u3 : PureT8.U h2) (u4 : PureT8.U l2) (s : ByteArray) (hsz : s.size ≤ 140737488351232) (six b1 b2 : Bool) : Ev (fun k => icmp_Take.f k s six b1 h1 l1 b2 h2 l2) (takeR s six b1 h1 l1 b2 h2 l2) := by
  unfold icmp_Take.f takeR
  by_cases ho : six = true ∧ (b1 && b2) = false
  · rw [if_pos ho]; exact ev_pos ho (ev_eq fun _ => rfl)
  rw [if_neg ho]
  refine ev_neg ho ?_
  by_cases h8 : s.size < 8
  · rw [if_pos h8]; exact ev_pos h8 (ev_eq fun _ => rfl)
  rw [if_neg h8]
  have hb := MBytes.range s
  have hl := bytesOf_length s
  refine ev_neg h8 (ev_neg (by omega) (Ev.bind (side_ev u1 u2 u3 u4 six b1 b2 _) (Ev.bind (PureT8.sum1_ev hb (by omega)) (ev_bind (PureT8.add_eq (ps_R ..) (S_R hb)) ?_))))
  by_cases hc : oadd (ps six b1 h1 l1 h2 l2 (s.size : Int)) (S (bytesOf s)) ≠ 65535
  · rw [if_pos hc]; exact ev_pos hc (ev_eq fun _ => rfl)
  rw [if_neg hc]
  refine ev_neg hc ?_
  by_cases hg : 65008 < s.size
  · rw [if_pos hg]; exact ev_pos hg (ev_eq fun _ => rfl)
  rw [if_neg hg]
  refine ev_neg hg ?_
  have hx := MBytes.extract s 0 8
  have hg8 := get_ev (l := bytesOf (s.extract 0 8)) (a := 4) (w := 4) (MBytes.range _) (by rw [hx]; simp; omega) (by omega) (by omega)
  have hn := num4 hb
  have e : get (bytesOf (s.extract 0 8)) 4 4 = (num (((bytesOf s).drop 4).take 4), true) := by
    unfold get
    have hlen : (bytesOf (s.extract 0 8)).length = 8 := by rw [hx]; simp; omega
    rw [if_pos (by unfold fits; omega)]
    unfold slice_
    rw [hx]
    congr 2
    simp [List.drop_take, List.take_take]
  rw [e] at hg8
  refine Ev.bind hg8 (ev_eq fun _ => ?_)
  rw [w64 (by omega) (by omega)]
end Go.Proofs.YtaoopneiglgnkaaDoor.Pure8
namespace Go.Proofs.YtaoopneiglgnkaaDoor.Pure8
open Go.RowKit Go.Proofs.YtaoopneiglgnkaaDoor.PBase Go.Proofs.YtaoopneiglgnkaaDoorW.PrintWords Go.Proofs.YtaoopneiglgnkaaDoorW.PrintLast Go.Proofs.YtaoopneiglgnkaaDoorW.PrintMore Go.Proofs.YtaoopneiglgnkaaDoor.MTally Go.Proofs.YtaoopneiglgnkaaDoor.MBe
theorem msg_size (kind code rest : Int) (data : ByteArray) (c : Int) : (strOfNums (icmp_base_bytes.of kind code rest data c)).size = 8 + data.size := by
  rw [MBytes.size_ofNums, icmp_base_bytes.of_length]
theorem msg_eq (kind code rest : Int) (data : ByteArray) (c : Int) : icmp_base_bytes.of kind code rest data c = [kind % 256, code % 256] ++ (c / 256 % 256) :: (c % 256) :: (be (IntKind.u64.wrap rest) 4 ++ bytesOf data) := by
  unfold icmp_base_bytes.of
  simp [be]
theorem sum_msg (kind code rest : Int) (data : ByteArray) (c : Int) (hc : R c) : S (icmp_base_bytes.of kind code rest data c) = oadd (S (icmp_base_bytes.of kind code rest data 0)) c := by
  have b1 : Bytes [kind % 256, code % 256] := by
    intro x hx
    simp only [List.mem_cons, List.not_mem_nil, or_false] at hx
    omega
  have b2 : Bytes (be (IntKind.u64.wrap rest) 4 ++ bytesOf data) := Bytes.append (be_bytes _ _) (MBytes.range _)
  unfold R at hc
  rw [msg_eq, msg_eq, S_word (by simp) b1 b2 (by omega) (by omega), S_word (by simp) b1 b2 (by omega) (by omega)]
  rw [show c / 256 % 256 * 256 + c % 256 = c by omega, show (0 : Int) / 256 % 256 * 256 + 0 % 256 = 0 by decide, oadd_zero (oadd_R (S_R b1) (S_R b2))]
theorem sum_back (six : Bool) (kind code rest : Int) (data : ByteArray) (b1 : Bool) (h1 l1 h2 l2 : Int) :
    oadd (ps six b1 h1 l1 h2 l2 (8 + (data.size : Int))) (S (icmp_base_bytes.of kind code rest data (chk six kind code rest data b1 h1 l1 h2 l2))) = 65535 := by
  rw [sum_msg _ _ _ _ _ (chk_R ..), ← oadd_assoc (ps_R ..) (S_R (M_bytes _ _ _ _ _)) (chk_R ..)]
  exact oadd_compl (oadd_R (ps_R ..) (S_R (M_bytes _ _ _ _ _)))
theorem take_lay (six : Bool) (kind code rest : Int) (data : ByteArray) (b1 : Bool) (h1 l1 : Int) (b2 : Bool) (h2 l2 : Int) (ho : ¬ (six = true ∧ (b1 && b2) = false)) (hm : may kind code rest data.size = true) {c : Int} (hc : R c)
    (hs : oadd (ps six b1 h1 l1 h2 l2 (8 + (data.size : Int))) (S (icmp_base_bytes.of kind code rest data c)) = 65535) :
    takeR (strOfNums (icmp_base_bytes.of kind code rest data c)) six b1 h1 l1 b2 h2 l2 = (six, kind, code, rest, data, 0) := by
  have hd := may_size hm
  have hz := msg_size kind code rest data c
  have hB := MBytes.ofNums (M_bytes kind code rest data c)
  have hr : IntKind.u64.wrap rest = rest := wu64 (by omega) (by omega)
  have he := msg_eq kind code rest data c
  have e0 : bt (strOfNums (icmp_base_bytes.of kind code rest data c)) 0 = kind := by
    rw [← rd_bytesOf, hB, he]; simp [rd]; omega
  have e1 : bt (strOfNums (icmp_base_bytes.of kind code rest data c)) 1 = code := by
    rw [← rd_bytesOf, hB, he]; simp [rd]; omega
  have e4 : ((icmp_base_bytes.of kind code rest data c).drop 4).take 4 = be rest 4 := by
    rw [he, hr]
    simp only [List.cons_append, List.nil_append, List.drop_succ_cons, List.drop_zero]
    exact List.take_left' (be_length _ _)
  have e8 : (strOfNums (icmp_base_bytes.of kind code rest data c)).extract 8 (8 + data.size) = data := by
    apply MBytes.inj
    rw [MBytes.extract, hB, he, hr]
    simp only [List.cons_append, List.nil_append, List.drop_succ_cons]
    rw [List.drop_left' (be_length _ _)]
    exact List.take_of_length_le (by rw [bytesOf_length]; omega)
  unfold takeR
  rw [if_neg ho, if_neg (by omega), hB, hz, show ((8 + data.size : Nat) : Int) = 8 + (data.size : Int) by omega, hs, if_neg (by decide), if_neg (by omega), e0, e1, e4, e8, num_be]
  rw [show rest % 256 ^ 4 = rest by omega]
theorem ends_pos (h1 l1 h2 l2 n : Int) : S (PureT8.ends true h1 l1 h2 l2 n 58) ≠ 0 := by
  intro h
  rw [S_eq_zero (PureT8.ends_bytes _ _ _ _ _ _ _)] at h
  have := h 58 (by unfold PureT8.ends; simp)
  omega
end Go.Proofs.YtaoopneiglgnkaaDoor.Pure8
