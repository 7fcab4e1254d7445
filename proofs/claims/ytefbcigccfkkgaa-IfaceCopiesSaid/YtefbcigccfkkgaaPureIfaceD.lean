/-
  What the document's functions on names and addresses come to: the same as the program's. No program in sight but their Lean functions. Conditions: those of each theorem.
-/
import Derived.Test.YtefbcigccfkkgaaPBasex9
import Derived.Test.YtefbcigccfkkgaaPBasex12
import Derived.Test.YtefbcigccfkkgaaPureIfaceN
import Derived.Test.YtefbcigccfkkgaaMTally
import Derived.Laws.BitsLemmas
set_option linter.unusedVariables false
set_option linter.unusedSimpArgs false
namespace Go.Proofs.Ytefbcigccfkkgaa.Pure
open Go.RowKit Go.Proofs.Ytefbcigccfkkgaa.PBase Go.Proofs.YtefbcigccfkkgaaW.PrintWords Go.Proofs.YtefbcigccfkkgaaW.PrintLast Go.Proofs.YtefbcigccfkkgaaW.PrintMore Go.Proofs.Ytefbcigccfkkgaa.MTally Go.Proofs.Ytefbcigccfkkgaa.MBe
/-! Small steps for what printed functions come to. -/
theorem w64 {n : Int} (h0 : -9223372036854775808 ≤ n) (h1 : n ≤ 9223372036854775807) : wrap64 n = n := by unfold wrap64; omega
theorem wu64 {n : Int} (h0 : 0 ≤ n) (h1 : n < 18446744073709551616) : IntKind.u64.wrap n = n := by
  simp only [IntKind.wrap, IntKind.signed, IntKind.bits, Bool.false_and, Bool.false_eq_true, if_false]; omega
theorem wu64' (n : Int) : IntKind.u64.wrap n = n % 18446744073709551616 := by
  simp only [IntKind.wrap, IntKind.signed, IntKind.bits, Bool.false_and, Bool.false_eq_true, if_false]; rfl
theorem wu32 {n : Int} (h0 : 0 ≤ n) (h1 : n < 4294967296) : IntKind.u32.wrap n = n := by
  simp only [IntKind.wrap, IntKind.signed, IntKind.bits, Bool.false_and, Bool.false_eq_true, if_false]; omega
theorem wu16 {n : Int} (h0 : 0 ≤ n) (h1 : n < 65536) : IntKind.u16.wrap n = n := by
  simp only [IntKind.wrap, IntKind.signed, IntKind.bits, Bool.false_and, Bool.false_eq_true, if_false]; omega
theorem wu8 {n : Int} (h0 : 0 ≤ n) (h1 : n < 256) : IntKind.u8.wrap n = n := by
  simp only [IntKind.wrap, IntKind.signed, IntKind.bits, Bool.false_and, Bool.false_eq_true, if_false]; omega
theorem ev_pos {α : Type} {c : Prop} [Decidable c] {f g : Nat → Option α} {r : α} (hc : c) (h : Ev f r) : Ev (fun k => if c then f k else g k) r := by
  simp only [if_pos hc]; exact h
theorem ev_neg {α : Type} {c : Prop} [Decidable c] {f g : Nat → Option α} {r : α} (hc : ¬ c) (h : Ev g r) : Ev (fun k => if c then f k else g k) r := by
  simp only [if_neg hc]; exact h
theorem ev_eq {α : Type} {f : Nat → Option α} {r : α} (h : ∀ k, f k = some r) : Ev f r := ⟨0, fun k _ => h k⟩
theorem ev_bind {α β : Type} {o : Option α} {f : Nat → α → Option β} {a : α} {r : β} (h : o = some a) (k : Ev (fun n => f n a) r) : Ev (fun n => o.bind (f n)) r := by
  subst h; exact k
theorem rd_at {xs : List Int} {i : Nat} (h : i < xs.length) : rd xs (i : Int) = xs[i] := by
  simp [rd, List.getElem?_eq_getElem h]
theorem byte_at {xs : List Int} (hb : Bytes xs) {i : Nat} (h : i < xs.length) : 0 ≤ xs[i] ∧ xs[i] ≤ 255 := hb _ (List.getElem_mem h)
theorem byte_of_wf {a : Int} (h : (Lit.int .u8 a).wf = true) : 0 ≤ a ∧ a ≤ 255 := by
  have := h
  simp [Lit.wf, IntKind.min, IntKind.max, IntKind.signed, IntKind.bits] at this
  exact this
theorem i64_of_wf {a : Int} (h : (Lit.int .i64 a).wf = true) : -9223372036854775808 ≤ a ∧ a ≤ 9223372036854775807 := by
  have := h
  simp [Lit.wf, IntKind.min, IntKind.max, IntKind.signed, IntKind.bits] at this
  exact this
theorem u64_of_wf {a : Int} (h : (Lit.int .u64 a).wf = true) : 0 ≤ a ∧ a ≤ 18446744073709551615 := by
  have := h
  simp [Lit.wf, IntKind.min, IntKind.max, IntKind.signed, IntKind.bits] at this
  exact this
theorem u32_of_wf {a : Int} (h : (Lit.int .u32 a).wf = true) : 0 ≤ a ∧ a ≤ 4294967295 := by
  have := h
  simp [Lit.wf, IntKind.min, IntKind.max, IntKind.signed, IntKind.bits] at this
  exact this
theorem u16_of_wf {a : Int} (h : (Lit.int .u16 a).wf = true) : 0 ≤ a ∧ a ≤ 65535 := by
  have := h
  simp [Lit.wf, IntKind.min, IntKind.max, IntKind.signed, IntKind.bits] at this
  exact this
theorem bytes_of_wf {l : List Int} (h : ∀ x ∈ l, (Lit.int .u8 x).wf = true) : Bytes l := fun x hx => byte_of_wf (h x hx)
/-! What the reference's Put lays. -/
theorem put_l1 (n : Int) (hn : 0 ≤ n ∧ n ≤ 18446744073709551615) (acc : List Int) (i : Nat) (r : List Int) (hi : i < 8) (hl : acc.length < 140737488355328)
    (h : Ev (fun k => crosswayref01_Put.l0 k n (acc ++ [n / 256 ^ i % 256]) ((i : Int) - 1)) r) : ∀ d j : Nat, i = j + d → Ev (fun k => crosswayref01_Put.l1 k n acc (i : Int) (n / 256 ^ j) (j : Int)) r := by
  intro d
  induction d with
  | zero =>
    intro j e
    obtain rfl : i = j := by omega
    refine Ev.step (f := fun k => crosswayref01_Put.l0 k n (acc ++ [n / 256 ^ i % 256]) ((i : Int) - 1)) (fun k => ?_) h
    simp only [crosswayref01_Put.l1]
    have h0 : 0 ≤ n / 256 ^ i := Int.ediv_nonneg hn.1 (Int.le_of_lt (pow_pos i))
    rw [if_neg (by omega), if_pos hl, Int.tmod_eq_emod_of_nonneg h0, w64 (by omega) (by omega), Int.emod_emod_of_dvd _ (Int.dvd_refl _)]
  | succ d ih =>
    intro j e
    refine Ev.step (f := fun k => crosswayref01_Put.l1 k n acc (i : Int) (n / 256 ^ (j + 1)) ((j + 1 : Nat) : Int)) (fun k => ?_) (ih (j + 1) (by omega))
    simp only [crosswayref01_Put.l1]
    have h0 : 0 ≤ n / 256 ^ j := Int.ediv_nonneg hn.1 (Int.le_of_lt (pow_pos j))
    have h1 : n / 256 ^ j ≤ n := Int.ediv_le_self _ hn.1
    have h2 : IntKind.u64.wrap (Int.tdiv (n / 256 ^ j) 256) = n / 256 ^ (j + 1) := by
      rw [Int.tdiv_eq_ediv_of_nonneg h0, ← div_div]
      simp only [IntKind.wrap, IntKind.signed, IntKind.bits, Bool.false_and, Bool.false_eq_true, if_false]
      omega
    have h3 : wrap64 ((j : Int) + 1) = ((j + 1 : Nat) : Int) := by rw [w64 (by omega) (by omega)]; omega
    rw [if_pos (by omega), h2, h3]
theorem put_l0 (n : Int) (hn : 0 ≤ n ∧ n ≤ 18446744073709551615) : ∀ (w : Nat) (acc : List Int), w ≤ 8 → acc.length + w < 140737488355328 →
    Ev (fun k => crosswayref01_Put.l0 k n acc ((w : Int) - 1)) (acc ++ be n w) := by
  intro w
  induction w with
  | zero =>
    intro acc _ _
    refine Ev.step (f := fun _ => some acc) (fun k => ?_) (by simp only [be, List.append_nil]; exact Ev.now _)
    simp only [crosswayref01_Put.l0]; rw [if_neg (by omega)]
  | succ w ih =>
    intro acc hw hl
    refine Ev.step (f := fun k => crosswayref01_Put.l1 k n acc (w : Int) (n / 256 ^ 0) ((0 : Nat) : Int)) (fun k => ?_) ?_
    · simp only [crosswayref01_Put.l0]
      rw [if_pos (by omega), show ((w + 1 : Nat) : Int) - 1 = (w : Int) by omega]; simp
    · refine put_l1 n hn acc w _ (by omega) (by omega) ?_ w 0 (by omega)
      have h := ih (acc ++ [n / 256 ^ w % 256]) (by omega) (by simp only [List.length_append, List.length_cons, List.length_nil]; omega)
      rw [List.append_assoc] at h
      exact h
/-- The width as it is taken: from 0 to 8. -/
def wid (w : Int) : Nat := (mn (mx w 0) 8).toNat
theorem wid_eq (w : Int) : mn (mx w 0) 8 = (wid w : Int) := by
  unfold wid mn mx; split <;> split <;> omega
theorem wid_le (w : Int) : wid w ≤ 8 := by
  unfold wid mn mx; split <;> split <;> omega
theorem wid_of {w : Nat} (h : w ≤ 8) : wid (w : Int) = w := by
  unfold wid mn mx; split <;> split <;> omega
theorem rput_ev (l : List Int) (w n : Int) (hn : 0 ≤ n ∧ n ≤ 18446744073709551615) (hl : l.length ≤ 140737488351232) :
    Ev (fun k => crosswayref01_Put.f k l w n) (l ++ be n (wid w)) := by
  unfold crosswayref01_Put.f
  have hw := wid_le w
  refine ev_pos (by simp only [List.length_nil]; omega) ?_
  rw [wid_eq, List.nil_append]
  exact put_l0 n hn (wid w) l hw (by omega)
/-! Addresses: valid, class, bytes. -/
def validB (t : Bool) (h l : Int) : Bool := t || (h == 0 && decide (l < 4294967296))
def cls (t : Bool) (h l : Int) : Int :=
  if t = true then (if h = 0 ∧ l = 0 then 0 else if h = 0 ∧ l = 1 then 1 else if h / 18014398509481984 = 1018 then 2 else if h / 72057594037927936 = 255 then 3 else 5)
  else if ¬ (h = 0 ∧ l < 4294967296) then -1 else if l = 0 then 0 else if l / 16777216 = 127 then 1 else if l / 65536 = 43518 then 2 else if l = 4294967295 then 4 else if l / 268435456 = 14 then 3 else 5
theorem valid_eq (t : Bool) (h l : Int) : addr_Valid.f t h l = some (validB t h l) := by
  unfold addr_Valid.f validB
  cases t
  · by_cases e : h = 0 <;> simp [e]
  · rfl
theorem class_eq (t : Bool) (h l : Int) : addr_Class.f t h l = some (cls t h l) := by
  unfold addr_Class.f
  rw [valid_eq, Option.bind_some]
  unfold validB cls
  cases t
  · by_cases e : h = 0 ∧ l < 4294967296
    · obtain ⟨rfl, e2⟩ := e
      simp only [Bool.false_or, beq_self_eq_true, Bool.true_and, decide_eq_true e2, if_true, Bool.false_eq_true, if_false, e2, and_self, not_true_eq_false]
      (repeat' split) <;> first | rfl | (exfalso; omega) | contradiction
    · have : (h == 0 && decide (l < 4294967296)) = false := by
        cases h1 : (h == 0 && decide (l < 4294967296))
        · rfl
        · exfalso; apply e; simpa using h1
      simp only [Bool.false_or, this, Bool.false_eq_true, if_false, e, not_false_eq_true, if_true]
  · simp only [Bool.true_or, if_true]
    unfold addr_classSix.f
    by_cases h0 : h = 0
    · subst h0
      by_cases l0 : l = 0
      · subst l0; rfl
      · by_cases l1 : l = 1
        · subst l1; rfl
        · simp [l0, l1]
    · by_cases h2 : h / 18014398509481984 = 1018
      · simp [h0, h2]
      · by_cases h3 : h / 72057594037927936 = 255
        · simp [h0, h2, h3]
        · simp [h0, h2, h3]
theorem rvalid_eq (t : Bool) (h l : Int) : crosswayref03_Valid.f t h l = some (validB t h l) := by
  unfold crosswayref03_Valid.f validB
  cases t
  · by_cases e : h = 0 <;> simp [e]
  · rfl
/-- An address's bytes. -/
def adr (t : Bool) (h l : Int) : List Int := if t = true then be h 8 ++ be l 8 else if h = 0 ∧ l < 4294967296 then be l 4 else []
/-! The reference's class and bytes. -/
theorem rbytes_ev (t : Bool) (h l : Int) (hh : 0 ≤ h ∧ h ≤ 18446744073709551615) (hl : 0 ≤ l ∧ l ≤ 18446744073709551615) : Ev (fun k => crosswayref03_Bytes.f k t h l) (adr t h l) := by
  unfold crosswayref03_Bytes.f
  refine ev_bind (rvalid_eq t h l) ?_
  unfold adr validB
  have w8 : wid 8 = 8 := wid_of (w := 8) (by decide)
  have w4 : wid 4 = 4 := wid_of (w := 4) (by decide)
  cases t
  · by_cases e : h = 0 ∧ l < 4294967296
    · rw [if_neg (by decide), if_pos e]
      refine ev_pos (by simp [e.1, e.2]) (ev_neg (by decide) ?_)
      have h1 := rput_ev [] 4 l hl (by simp)
      rw [w4, List.nil_append] at h1
      exact Ev.bind h1 (ev_eq fun _ => rfl)
    · rw [if_neg (by decide), if_neg e]
      exact ev_neg (by intro h1; apply e; simpa using h1) (ev_eq fun _ => rfl)
  · rw [if_pos rfl]
    refine ev_pos rfl (ev_pos rfl ?_)
    have h1 := rput_ev [] 8 h hh (by simp)
    have h2 := rput_ev (be h 8) 8 l hl (by rw [be_length]; omega)
    rw [w8, List.nil_append] at h1
    rw [w8] at h2
    exact Ev.bind h1 (Ev.bind h2 (ev_eq fun _ => rfl))
theorem adr_rd (n m : Int) : rd (be n 8 ++ be m 8) 0 = n / 72057594037927936 % 256 ∧ rd (be n 8 ++ be m 8) 1 = n / 281474976710656 % 256 := by
  simp only [be, List.cons_append, rd]
  constructor <;> rfl
theorem adr_rd4 (n : Int) : rd (be n 4) 0 = n / 16777216 % 256 ∧ rd (be n 4) 1 = n / 65536 % 256 := by
  simp only [be, rd]
  constructor <;> rfl
theorem rclass_ev (t : Bool) (h l : Int) (hh : 0 ≤ h ∧ h ≤ 18446744073709551615) (hl : 0 ≤ l ∧ l ≤ 18446744073709551615) : Ev (fun k => crosswayref03_Class.f k t h l) (cls t h l) := by
  unfold crosswayref03_Class.f
  refine ev_bind (rvalid_eq t h l) ?_
  unfold validB cls
  have hby := rbytes_ev t h l hh hl
  unfold adr at hby
  cases t
  · rw [if_neg (by decide)] at hby ⊢
    by_cases e : h = 0 ∧ l < 4294967296
    · rw [if_pos e] at hby
      rw [if_neg (by simpa using e)]
      have r0 := (adr_rd4 l).1
      have r1 := (adr_rd4 l).2
      have z0 : wrap64 (rd (be l 4) 0) = l / 16777216 := by rw [r0, w64 (by omega) (by omega)]; omega
      refine ev_pos (by simp [e.1, e.2]) (Ev.bind hby (ev_pos (by rw [be_length]; omega) (ev_neg (by decide) ?_)))
      rw [z0]
      by_cases c0 : l = 0
      · rw [if_pos c0]; exact ev_pos c0 (ev_eq fun _ => rfl)
      rw [if_neg c0]; refine ev_neg c0 ?_
      by_cases c1 : l / 16777216 = 127
      · rw [if_pos c1]; exact ev_pos c1 (ev_eq fun _ => rfl)
      rw [if_neg c1]; refine ev_neg c1 ?_
      have j3 : ∀ b : Bool, Ev (fun k => crosswayref03_Class.j3 k (l / 16777216) b false h l) (if b = true then 2 else if l = 4294967295 then 4 else if l / 268435456 = 14 then 3 else 5) := by
        intro b
        have z1 : wrap64 (Int.tdiv (l / 16777216) 16) = l / 268435456 := by
          rw [Int.tdiv_eq_ediv_of_nonneg (by omega), w64 (by omega) (by omega)]; omega
        refine Ev.step (f := fun _ => some (if b = true then 2 else if l = 4294967295 then 4 else if l / 268435456 = 14 then 3 else 5)) (fun k => ?_) (Ev.now _)
        simp only [crosswayref03_Class.j3]
        rw [z1]
        cases b
        · simp only [Bool.false_eq_true, if_false]
          (repeat' split) <;> first | rfl | (exfalso; omega) | contradiction
        · rfl
      by_cases c2 : l / 16777216 = 169
      · refine ev_pos c2 (ev_pos (by rw [be_length]; omega) ?_)
        rw [r1]
        have h3 := j3 (l / 65536 % 256 == 254)
        by_cases c3 : l / 65536 = 43518
        · rw [if_pos c3]
          rw [show (l / 65536 % 256 == 254) = true by rw [beq_iff_eq]; omega] at h3 ⊢
          exact h3
        · rw [if_neg c3]
          rw [show (l / 65536 % 256 == 254) = false by rw [beq_eq_false_iff_ne]; omega] at h3 ⊢
          exact h3
      · refine ev_neg c2 ?_
        rw [if_neg (by omega)]
        exact j3 false
    · rw [if_pos e]
      exact ev_neg (by intro h1; apply e; simpa using h1) (ev_eq fun _ => rfl)
  · rw [if_pos rfl] at hby ⊢
    have r0 := (adr_rd h l).1
    have r1 := (adr_rd h l).2
    have z0 : wrap64 (rd (be h 8 ++ be l 8) 0) = h / 72057594037927936 := by rw [r0, w64 (by omega) (by omega)]; omega
    have hlen : (be h 8 ++ be l 8).length = 16 := by rw [List.length_append, be_length, be_length]
    refine ev_pos rfl (Ev.bind hby (ev_pos (by rw [hlen]; omega) (ev_pos rfl ?_)))
    rw [z0]
    have j2 : ∀ b : Bool, Ev (fun k => crosswayref03_Class.j2 k (h / 72057594037927936) b) (if b = true then 2 else if h / 72057594037927936 = 255 then 3 else 5) := by
      intro b
      refine Ev.step (f := fun _ => some (if b = true then 2 else if h / 72057594037927936 = 255 then 3 else 5)) (fun k => ?_) (Ev.now _)
      simp only [crosswayref03_Class.j2]
      cases b
      · simp only [Bool.false_eq_true, if_false]
        (repeat' split) <;> first | rfl | (exfalso; omega) | contradiction
      · rfl
    have j1 : Ev (fun k => crosswayref03_Class.j1 k (be h 8 ++ be l 8) (h / 72057594037927936) false) (if h / 18014398509481984 = 1018 then 2 else if h / 72057594037927936 = 255 then 3 else 5) := by
      by_cases c : h / 72057594037927936 = 254
      · have q : Int.tdiv (h / 281474976710656 % 256) 64 = h / 281474976710656 % 256 / 64 := Int.tdiv_eq_ediv_of_nonneg (by omega)
        have h3 := j2 (h / 281474976710656 % 256 / 64 % 256 == 2)
        refine Ev.step (f := fun k => crosswayref03_Class.j2 k (h / 72057594037927936) (h / 281474976710656 % 256 / 64 % 256 == 2)) (fun k => ?_) ?_
        · simp only [crosswayref03_Class.j1]
          rw [if_neg (by decide), if_pos c, if_pos (by rw [hlen]; omega), r1, q]
        · by_cases c3 : h / 18014398509481984 = 1018
          · rw [if_pos c3]
            rw [show (h / 281474976710656 % 256 / 64 % 256 == 2) = true by rw [beq_iff_eq]; omega] at h3 ⊢
            exact h3
          · rw [if_neg c3]
            rw [show (h / 281474976710656 % 256 / 64 % 256 == 2) = false by rw [beq_eq_false_iff_ne]; omega] at h3 ⊢
            exact h3
      · refine Ev.step (f := fun k => crosswayref03_Class.j2 k (h / 72057594037927936) false) (fun k => ?_) ?_
        · simp only [crosswayref03_Class.j1]
          rw [if_neg (by decide), if_neg c]
        · rw [if_neg (by omega)]
          exact j2 false
    by_cases c0 : h = 0
    · subst c0
      refine ev_pos rfl ?_
      by_cases l0 : l = 0
      · subst l0
        rw [if_pos ⟨rfl, rfl⟩]
        refine Ev.step (f := fun _ => some 0) (fun k => ?_) (Ev.now _)
        simp only [crosswayref03_Class.j0]; rfl
      · rw [if_neg (fun q => l0 q.2)]
        by_cases l1 : l = 1
        · subst l1
          rw [if_pos ⟨rfl, rfl⟩]
          refine Ev.step (f := fun k => crosswayref03_Class.j1 k (be 0 8 ++ be 1 8) (0 / 72057594037927936) true) (fun k => ?_) ?_
          · simp only [crosswayref03_Class.j0]; rfl
          · refine Ev.step (f := fun _ => some 1) (fun k => ?_) (Ev.now _)
            simp only [crosswayref03_Class.j1]; rfl
        · rw [if_neg (fun q => l1 q.2)]
          refine Ev.step (f := fun k => crosswayref03_Class.j1 k (be 0 8 ++ be l 8) (0 / 72057594037927936) false) (fun k => ?_) j1
          simp only [crosswayref03_Class.j0]
          rw [if_neg (by simpa using l0), if_pos trivial, show (l == 1) = false by simpa using l1]
    · rw [if_neg (fun q => c0 q.1), if_neg (fun q => c0 q.1)]
      refine ev_neg c0 ?_
      refine Ev.step (f := fun k => crosswayref03_Class.j1 k (be h 8 ++ be l 8) (h / 72057594037927936) false) (fun k => ?_) j1
      simp only [crosswayref03_Class.j0]
      rw [if_neg (by decide), if_neg c0]
/-! Bits. -/
theorem be_get (n : Int) : ∀ (w m : Nat), m < w → (be n w)[m]? = some (n / 256 ^ (w - 1 - m) % 256) := by
  intro w
  induction w with
  | zero => intro m h; omega
  | succ w ih =>
    intro m h
    cases m with
    | zero => rfl
    | succ m =>
      show (be n w)[m]? = _
      rw [ih m (by omega), show w + 1 - 1 - (m + 1) = w - 1 - m by omega]
/-- The bit of a number that stands e from the right. -/
def bt2 (x : Int) (e : Nat) : Int := x / 2 ^ e % 2
theorem byte_bit (x : Int) (a b : Nat) (hb : b ≤ 7) : x / 256 ^ a % 256 / 2 ^ b % 2 = bt2 x (8 * a + b) := by
  unfold bt2
  rw [show (2 : Int) ^ (8 * a + b) = 256 ^ a * 2 ^ b by rw [Int.pow_add, Int.pow_mul]; rfl, ← Int.ediv_ediv_of_nonneg (Int.le_of_lt (Int.pow_pos (by decide)))]
  generalize x / 256 ^ a = y
  have : b = 0 ∨ b = 1 ∨ b = 2 ∨ b = 3 ∨ b = 4 ∨ b = 5 ∨ b = 6 ∨ b = 7 := by omega
  rcases this with rfl | rfl | rfl | rfl | rfl | rfl | rfl | rfl
  all_goals (simp only [show (2 : Int) ^ 0 = 1 by decide, show (2 : Int) ^ 1 = 2 by decide, show (2 : Int) ^ 2 = 4 by decide, show (2 : Int) ^ 3 = 8 by decide, show (2 : Int) ^ 4 = 16 by decide, show (2 : Int) ^ 5 = 32 by decide, show (2 : Int) ^ 6 = 64 by decide, show (2 : Int) ^ 7 = 128 by decide]; omega)
def wd (t : Bool) : Nat := if t = true then 128 else 32
/-- A bit of an address. -/
def bv (t : Bool) (h l : Int) (i : Nat) : Int := if t = true then (if i < 64 then bt2 h (63 - i) else bt2 l (127 - i)) else bt2 l (31 - i)
theorem bit_l0 : ∀ (d : Nat) (j : Nat) (c : Int), 0 ≤ c → c ≤ 255 → d + j = 7 → Ev (fun k => crosswayref04_Bit.l0 k c (j : Int)) (c / 2 ^ d % 2) := by
  intro d
  induction d with
  | zero =>
    intro j c h0 h1 hj
    refine Ev.step (f := fun _ => some (c / 2 ^ 0 % 2)) (fun k => ?_) (Ev.now _)
    simp only [crosswayref04_Bit.l0]
    rw [if_neg (by omega), Int.tmod_eq_emod_of_nonneg h0, Int.pow_zero, Int.ediv_one]
  | succ d ih =>
    intro j c h0 h1 hj
    refine Ev.step (f := fun k => crosswayref04_Bit.l0 k (c / 2) ((j + 1 : Nat) : Int)) (fun k => ?_) ?_
    · simp only [crosswayref04_Bit.l0]
      rw [if_pos (by omega), Int.tdiv_eq_ediv_of_nonneg h0, w64 (by omega) (by omega), w64 (by omega) (by omega)]
      rfl
    · have := ih (j + 1) (c / 2) (by omega) (by omega) (by omega)
      rw [Int.ediv_ediv_of_nonneg (by decide : (0 : Int) ≤ 2), Int.mul_comm, ← Int.pow_succ] at this
      exact this
theorem adr_byte (t : Bool) (h l : Int) (hv : validB t h l = true) (i : Nat) (hi : i < wd t) : ∃ c, (adr t h l)[i / 8]? = some c ∧ 0 ≤ c ∧ c ≤ 255 ∧ c / 2 ^ (7 - i % 8) % 2 = bv t h l i := by
  unfold adr bv wd at *
  cases t with
  | true =>
    rw [if_pos rfl] at hi ⊢
    rw [if_pos rfl]
    by_cases h64 : i < 64
    · rw [List.getElem?_append_left (by rw [be_length]; omega), be_get _ _ _ (by omega), if_pos h64]
      refine ⟨_, rfl, by omega, by omega, ?_⟩
      rw [byte_bit _ _ _ (by omega), show 8 * (8 - 1 - i / 8) + (7 - i % 8) = 63 - i by omega]
    · rw [List.getElem?_append_right (by rw [be_length]; omega), be_length, be_get _ _ _ (by omega), if_neg h64]
      refine ⟨_, rfl, by omega, by omega, ?_⟩
      rw [byte_bit _ _ _ (by omega), show 8 * (8 - 1 - (i / 8 - 8)) + (7 - i % 8) = 127 - i by omega]
  | false =>
    rw [if_neg (show ¬ (false = true) by decide)] at hi ⊢
    rw [if_neg (show ¬ (false = true) by decide)]
    unfold validB at hv
    rw [if_pos (by simpa using hv), be_get _ _ _ (by omega)]
    refine ⟨_, rfl, by omega, by omega, ?_⟩
    rw [byte_bit _ _ _ (by omega), show 8 * (4 - 1 - i / 8) + (7 - i % 8) = 31 - i by omega]
theorem adr_len (t : Bool) (h l : Int) (hv : validB t h l = true) : (adr t h l).length * 8 = wd t := by
  unfold adr wd
  cases t with
  | true => rw [if_pos rfl, if_pos rfl, List.length_append, be_length, be_length]
  | false =>
    unfold validB at hv
    rw [if_neg (show ¬ (false = true) by decide), if_neg (show ¬ (false = true) by decide), if_pos (by simpa using hv), be_length]
theorem width_eq (t : Bool) (h l : Int) : crosswayref04_Width.f t h l = some ((wd t : Nat) : Int) := by
  unfold crosswayref04_Width.f wd; cases t <;> rfl
theorem bit_ev (t : Bool) (h l : Int) (hh : 0 ≤ h ∧ h ≤ 18446744073709551615) (hl : 0 ≤ l ∧ l ≤ 18446744073709551615) (hv : validB t h l = true) (i : Nat) (hi : i < wd t) : Ev (fun k => crosswayref04_Bit.f k t h l (i : Int)) (bv t h l i) := by
  have hw : wd t ≤ 128 := by unfold wd; split <;> omega
  have hal := adr_len t h l hv
  unfold crosswayref04_Bit.f
  refine ev_bind (rvalid_eq t h l) (ev_pos hv (ev_neg (by omega) (ev_bind (width_eq t h l) ?_)))
  rw [decide_eq_false (by omega)]
  refine Ev.step (f := fun k => (crosswayref03_Bytes.f k t h l).bind fun b => if 0 ≤ wrap64 (Int.tdiv (i : Int) 8) then (if wrap64 (Int.tdiv (i : Int) 8) < (b.length : Int) then crosswayref04_Bit.l0 k (wrap64 (rd b (wrap64 (Int.tdiv (i : Int) 8)))) (Int.tmod (i : Int) 8) else none) else none) (fun k => by simp only [crosswayref04_Bit.j0]; rw [if_neg (by decide)]) ?_
  refine Ev.bind (rbytes_ev t h l hh hl) ?_
  have e8 : wrap64 (Int.tdiv (i : Int) 8) = ((i / 8 : Nat) : Int) := by rw [Int.tdiv_eq_ediv_of_nonneg (by omega), w64 (by omega) (by omega)]; omega
  rw [e8]
  obtain ⟨c, hc, h0, h1, h2⟩ := adr_byte t h l hv i hi
  obtain ⟨hcl, hce⟩ := List.getElem?_eq_some_iff.1 hc
  refine ev_pos (by omega) (ev_pos (by omega) ?_)
  rw [rd_at hcl, hce, w64 (by omega) (by omega), Int.tmod_eq_emod_of_nonneg (by omega), ← h2]
  have := bit_l0 (7 - i % 8) (i % 8) c h0 h1 (by omega)
  rw [show ((i % 8 : Nat) : Int) = (i : Int) % 8 by omega] at this
  exact this
/-! How many bits are common. -/
def com (p : Nat → Bool) : Nat → Nat → Nat
  | 0, i => i
  | d + 1, i => if p i = true then com p d (i + 1) else i
theorem com_ge {p : Nat → Bool} : ∀ (d i n : Nat), n ≤ i + d → (n ≤ com p d i ↔ ∀ j, i ≤ j → j < n → p j = true) := by
  intro d
  induction d with
  | zero => intro i n h; unfold com; exact ⟨fun _ j h1 h2 => by omega, fun _ => by omega⟩
  | succ d ih =>
    intro i n h
    unfold com
    by_cases c : p i = true
    · rw [if_pos c, ih (i + 1) n (by omega)]
      constructor
      · intro q j h1 h2
        by_cases e : j = i
        · rw [e]; exact c
        · exact q j (by omega) h2
      · intro q j h1 h2
        exact q j (by omega) h2
    · rw [if_neg c]
      constructor
      · intro q j h1 h2; omega
      · intro q
        rcases Nat.lt_or_ge i n with z | z
        · exact absurd (q i (Nat.le_refl _) z) c
        · exact z
theorem com_le {p : Nat → Bool} : ∀ (d i : Nat), com p d i ≤ i + d := by
  intro d
  induction d with
  | zero => intro i; exact Nat.le_refl _
  | succ d ih => intro i; unfold com; split; exact Nat.le_trans (ih _) (by omega); omega
def eqb (t : Bool) (h l h' l' : Int) (i : Nat) : Bool := bv t h l i == bv t h' l' i
theorem common_l0 (t : Bool) (h l h' l' : Int) (hh : 0 ≤ h ∧ h ≤ 18446744073709551615) (hl : 0 ≤ l ∧ l ≤ 18446744073709551615) (hv : validB t h l = true) (hh' : 0 ≤ h' ∧ h' ≤ 18446744073709551615) (hl' : 0 ≤ l' ∧ l' ≤ 18446744073709551615) (hv' : validB t h' l' = true) :
    ∀ d i : Nat, i + d = wd t → Ev (fun k => crosswayref04_Common.l0 k (i : Int) t h l t h' l') ((com (eqb t h l h' l') d i : Nat) : Int) := by
  have hw : wd t ≤ 128 := by unfold wd; split <;> omega
  intro d
  induction d with
  | zero =>
    intro i hi
    refine Ev.step (f := fun _ => some ((i : Nat) : Int)) (fun k => ?_) (Ev.now _)
    simp only [crosswayref04_Common.l0]
    rw [width_eq]
    simp only [Option.bind_some]
    rw [if_neg (by omega)]
  | succ d ih =>
    intro i hi
    refine Ev.step (f := fun k => (crosswayref04_Bit.f k t h l (i : Int)).bind fun a => (crosswayref04_Bit.f k t h' l' (i : Int)).bind fun b => if a = b then crosswayref04_Common.l0 k (wrap64 ((i : Int) + 1)) t h l t h' l' else some (i : Int)) (fun k => ?_) ?_
    · simp only [crosswayref04_Common.l0]
      rw [width_eq]
      simp only [Option.bind_some]
      rw [if_pos (by omega)]
    · refine Ev.bind (bit_ev t h l hh hl hv i (by omega)) (Ev.bind (bit_ev t h' l' hh' hl' hv' i (by omega)) ?_)
      unfold com
      by_cases c : bv t h l i = bv t h' l' i
      · rw [if_pos (show eqb t h l h' l' i = true by unfold eqb; rw [c]; simp)]
        refine ev_pos c ?_
        rw [w64 (by omega) (by omega), show (i : Int) + 1 = ((i + 1 : Nat) : Int) by omega]
        exact ih (i + 1) (by omega)
      · rw [if_neg (show ¬ eqb t h l h' l' i = true by unfold eqb; simpa using c)]
        exact ev_neg c (ev_eq fun _ => rfl)
/-! The first bits of a number. -/
theorem top_eq {x y : Int} {s : Nat} (hx : 0 ≤ x ∧ x < 2 ^ s) (hy : 0 ≤ y ∧ y < 2 ^ s) : ∀ m, m ≤ s → ((∀ i, i < m → bt2 x (s - 1 - i) = bt2 y (s - 1 - i)) ↔ x / 2 ^ (s - m) = y / 2 ^ (s - m)) := by
  intro m
  induction m with
  | zero =>
    intro _
    rw [Nat.sub_zero, Int.ediv_eq_zero_of_lt hx.1 hx.2, Int.ediv_eq_zero_of_lt hy.1 hy.2]
    exact ⟨fun _ => rfl, fun _ i h => by omega⟩
  | succ m ih =>
    intro hm
    have e1 : s - m = (s - (m + 1)) + 1 := by omega
    have d : ∀ z : Int, z / 2 ^ (s - m) = z / 2 ^ (s - (m + 1)) / 2 := fun z => by
      rw [e1, Int.pow_succ, ← Int.ediv_ediv_of_nonneg (Int.le_of_lt (Int.pow_pos (by decide)))]
    have b : ∀ z : Int, bt2 z (s - 1 - m) = z / 2 ^ (s - (m + 1)) % 2 := fun z => by unfold bt2; rw [show s - 1 - m = s - (m + 1) by omega]
    have ih := ih (by omega)
    rw [d, d] at ih
    constructor
    · intro q
      have h1 := ih.1 (fun i hi => q i (by omega))
      have h2 := q m (by omega)
      rw [b, b] at h2
      omega
    · intro q i hi
      by_cases e : i = m
      · rw [e, b, b, q]
      · exact ih.2 (by rw [q]) i (by omega)
def Fx (x : Int) (m s : Nat) : Int := x / 2 ^ (s - m) * 2 ^ (s - m)
theorem p2pos (e : Nat) : (0 : Int) < 2 ^ e := Int.pow_pos (by decide)
theorem Fx_eq {x y : Int} {m s : Nat} : Fx x m s = Fx y m s ↔ x / 2 ^ (s - m) = y / 2 ^ (s - m) := by
  unfold Fx
  have h := p2pos (s - m)
  exact ⟨fun q => Int.eq_of_mul_eq_mul_right (by omega) q, fun q => by rw [q]⟩
theorem Fx_idem (x : Int) (m s : Nat) : Fx (Fx x m s) m s = Fx x m s := by
  rw [Fx_eq]
  unfold Fx
  have h := p2pos (s - m)
  rw [Int.mul_ediv_cancel _ (by omega)]
theorem Fx_range {x : Int} (m s : Nat) (h0 : 0 ≤ x) : 0 ≤ Fx x m s ∧ Fx x m s ≤ x := by
  unfold Fx
  have h := p2pos (s - m)
  exact ⟨Int.mul_nonneg (Int.ediv_nonneg h0 (by omega)) (by omega), Int.ediv_mul_le _ (by omega)⟩
theorem first_eq {x : Int} (h0 : 0 ≤ x) (h1 : x < 18446744073709551616) (n : Int) (s : Nat) (hs : s = 64 ∨ s = 32) : prefix_first.f x n (s : Int) = some (Fx x (min n.toNat s) s) := by
  have he : wrap64 ((s : Int) - mn (mx n 0) (s : Int)) = ((s - min n.toNat s : Nat) : Int) := by
    rw [show mn (mx n 0) (s : Int) = ((min n.toNat s : Nat) : Int) by unfold mn mx; split <;> split <;> omega]
    rw [w64 (by omega) (by omega)]; omega
  unfold prefix_first.f
  rw [he, if_pos (by omega)]
  unfold shl shr
  rw [Int.toNat_natCast, Nat.min_eq_left (by show s - min n.toNat s ≤ 64; omega)]
  have hr := Fx_range (min n.toNat s) s h0
  unfold Fx at hr ⊢
  rw [wu64 hr.1 (by omega)]
def cutv (t : Bool) (h l : Int) (n : Nat) : Bool × Int × Int := if t = true then (true, Fx h (min n 64) 64, Fx l (min (n - 64) 64) 64) else (false, 0, Fx l (min n 32) 32)
theorem cut_eq (t : Bool) (h l : Int) (hh : 0 ≤ h ∧ h ≤ 18446744073709551615) (hl : 0 ≤ l ∧ l ≤ 18446744073709551615) (n : Nat) (hn : n ≤ 128) : prefix_cut.f t h l (n : Int) = some (cutv t h l n) := by
  unfold prefix_cut.f cutv
  have hw : wrap64 ((n : Int) - 64) = (n : Int) - 64 := w64 (by omega) (by omega)
  cases t with
  | true =>
    rw [if_pos rfl, if_pos rfl, hw, show (64 : Int) = ((64 : Nat) : Int) from rfl, first_eq hh.1 (by omega) (n : Int) 64 (.inl rfl)]
    simp only [Option.bind_some]
    rw [first_eq hl.1 (by omega) _ 64 (.inl rfl)]
    simp only [Option.bind_some, Int.toNat_natCast]
    rw [show ((n : Int) - ((64 : Nat) : Int)).toNat = n - 64 by omega]
  | false =>
    rw [if_neg (show ¬ (false = true) by decide), if_neg (show ¬ (false = true) by decide), show (32 : Int) = ((32 : Nat) : Int) from rfl, first_eq hl.1 (by omega) (n : Int) 32 (.inr rfl)]
    simp only [Option.bind_some, Int.toNat_natCast]
theorem four_lt {h l : Int} (hv : validB false h l = true) : h = 0 ∧ l < 4294967296 := by
  unfold validB at hv
  simpa using hv
theorem cut_bits (t : Bool) (h l h' l' : Int) (hh : 0 ≤ h ∧ h ≤ 18446744073709551615) (hl : 0 ≤ l ∧ l ≤ 18446744073709551615) (hv : validB t h l = true) (hh' : 0 ≤ h' ∧ h' ≤ 18446744073709551615) (hl' : 0 ≤ l' ∧ l' ≤ 18446744073709551615) (hv' : validB t h' l' = true) (n : Nat) (hn : n ≤ wd t) :
    cutv t h l n = cutv t h' l' n ↔ ∀ i, i < n → bv t h l i = bv t h' l' i := by
  unfold cutv bv
  cases t with
  | true =>
    have hn2 : n ≤ 128 := hn
    simp only [if_pos, Prod.mk.injEq, true_and, Fx_eq]
    have k1 := top_eq (s := 64) (x := h) (y := h') ⟨hh.1, by rw [show (2 : Int) ^ 64 = 18446744073709551616 by decide]; omega⟩ ⟨hh'.1, by rw [show (2 : Int) ^ 64 = 18446744073709551616 by decide]; omega⟩ (min n 64) (by omega)
    have k2 := top_eq (s := 64) (x := l) (y := l') ⟨hl.1, by rw [show (2 : Int) ^ 64 = 18446744073709551616 by decide]; omega⟩ ⟨hl'.1, by rw [show (2 : Int) ^ 64 = 18446744073709551616 by decide]; omega⟩ (min (n - 64) 64) (by omega)
    rw [← k1, ← k2]
    constructor
    · rintro ⟨a, b⟩ i hi
      by_cases c : i < 64
      · rw [if_pos c, if_pos c]
        have := a i (by omega)
        exact this
      · rw [if_neg c, if_neg c]
        have := b (i - 64) (by omega)
        rw [show 64 - 1 - (i - 64) = 127 - i by omega] at this
        exact this
    · intro q
      refine ⟨fun i hi => ?_, fun i hi => ?_⟩
      · have := q i (by omega)
        rw [if_pos (by omega), if_pos (by omega)] at this
        exact this
      · have := q (i + 64) (by omega)
        rw [if_neg (by omega), if_neg (by omega), show 127 - (i + 64) = 64 - 1 - i by omega] at this
        exact this
  | false =>
    have hn2 : n ≤ 32 := hn
    obtain ⟨_, q1⟩ := four_lt hv
    obtain ⟨_, q2⟩ := four_lt hv'
    simp only [Bool.false_eq_true, if_false, Prod.mk.injEq, true_and, Fx_eq]
    have k1 := top_eq (s := 32) (x := l) (y := l') ⟨hl.1, by rw [show (2 : Int) ^ 32 = 4294967296 by decide]; omega⟩ ⟨hl'.1, by rw [show (2 : Int) ^ 32 = 4294967296 by decide]; omega⟩ (min n 32) (by omega)
    rw [← k1]
    constructor
    · intro a i hi; exact a i (by omega)
    · intro a i hi; exact a i (by omega)
theorem pwidth_eq (t : Bool) (h l : Int) : prefix_width.f t h l = some ((wd t : Nat) : Int) := by
  unfold prefix_width.f wd; cases t <;> rfl
theorem wd_le (t : Bool) : wd t ≤ 128 := by unfold wd; split <;> omega
theorem of_err (t : Bool) (h l : Int) (n : Int) : ∃ q, prefix_Of.f t h l n = some q ∧ (q.2.2.2.2 = 0 ↔ (validB t h l = true ∧ 0 ≤ n ∧ n ≤ wd t)) ∧ ((validB t h l = true ∧ 0 ≤ n ∧ n ≤ wd t) → ∃ c, prefix_cut.f t h l n = some c ∧ q = (c.1, c.2.1, c.2.2, n, 0)) := by
  unfold prefix_Of.f
  rw [valid_eq, pwidth_eq]
  obtain ⟨c, hc⟩ := WIf.cut_some t h l n
  simp only [Option.bind_some, hc]
  by_cases hv : validB t h l = true
  · rw [if_pos hv]
    by_cases h0 : n < 0
    · rw [if_pos h0]
      exact ⟨_, rfl, ⟨fun q => absurd q (by decide), fun q => by omega⟩, fun q => by omega⟩
    · rw [if_neg h0]
      by_cases h1 : n > (wd t : Int)
      · rw [if_pos h1]
        exact ⟨_, rfl, ⟨fun q => absurd q (by decide), fun q => by omega⟩, fun q => by omega⟩
      · rw [if_neg h1]
        exact ⟨_, rfl, ⟨fun _ => ⟨hv, by omega, by omega⟩, fun _ => rfl⟩, fun _ => ⟨c, rfl, rfl⟩⟩
  · rw [if_neg hv]
    exact ⟨_, rfl, ⟨fun q => absurd q (by decide), fun q => absurd q.1 hv⟩, fun q => absurd q.1 hv⟩
theorem may_iff (a : If.Ad) (bits : Int) : If.mayB a bits = true ↔ (cls a.f0 a.f1 a.f2 = 2 ∨ cls a.f0 a.f1 a.f2 = 5) ∧ validB a.f0 a.f1 a.f2 = true ∧ 1 ≤ bits ∧ bits ≤ wd a.f0 := by
  obtain ⟨q, hq, h0, _⟩ := of_err a.f0 a.f1 a.f2 bits
  unfold If.mayB iface_may.f
  rw [class_eq, hq]
  simp only [Option.bind_some]
  have e : ∀ b : Bool, (some b).getD false = b := fun _ => rfl
  by_cases c2 : cls a.f0 a.f1 a.f2 = 2
  · rw [if_pos c2]
    by_cases z : q.2.2.2.2 = 0
    · rw [if_pos z, e, decide_eq_true_eq]
      have := h0.1 z
      exact ⟨fun y => ⟨.inl c2, this.1, by omega, this.2.2⟩, fun y => by omega⟩
    · rw [if_neg z, e]
      exact ⟨fun y => (Bool.noConfusion y), fun y => absurd (h0.2 ⟨y.2.1, by omega, y.2.2.2⟩) z⟩
  · rw [if_neg c2]
    by_cases c5 : cls a.f0 a.f1 a.f2 = 5
    · rw [if_pos c5]
      by_cases z : q.2.2.2.2 = 0
      · rw [if_pos z, e, decide_eq_true_eq]
        have := h0.1 z
        exact ⟨fun y => ⟨.inr c5, this.1, by omega, this.2.2⟩, fun y => by omega⟩
      · rw [if_neg z, e]
        exact ⟨fun y => (Bool.noConfusion y), fun y => absurd (h0.2 ⟨y.2.1, by omega, y.2.2.2⟩) z⟩
    · rw [if_neg c5, e]
      exact ⟨fun y => (Bool.noConfusion y), fun y => by rcases y.1 with z | z; exact absurd z c2; exact absurd z c5⟩
theorem cls_valid {t : Bool} {h l : Int} (hc : cls t h l = 2 ∨ cls t h l = 5) : validB t h l = true := by
  unfold validB cls at *
  cases t with
  | true => rfl
  | false =>
    rw [if_neg (show ¬ (false = true) by decide)] at hc
    by_cases q : h = 0 ∧ l < 4294967296
    · simpa using q
    · rw [if_pos q] at hc; rcases hc with z | z <;> exact absurd z (by decide)
theorem cutv_one (t : Bool) (h l : Int) (n : Nat) : (cutv t h l n).1 = t := by unfold cutv; cases t <;> rfl
theorem cutv_idem (t : Bool) (h l : Int) (n : Nat) : cutv t (cutv t h l n).2.1 (cutv t h l n).2.2 n = cutv t h l n := by
  unfold cutv
  cases t with
  | true => simp only [if_pos, Fx_idem]
  | false => simp only [Bool.false_eq_true, if_false, Fx_idem]
theorem cutv_range {t : Bool} {h l : Int} (n : Nat) (hh : 0 ≤ h ∧ h ≤ 18446744073709551615) (hl : 0 ≤ l ∧ l ≤ 18446744073709551615) (hv : validB t h l = true) :
    (0 ≤ (cutv t h l n).2.1 ∧ (cutv t h l n).2.1 ≤ 18446744073709551615) ∧ (0 ≤ (cutv t h l n).2.2 ∧ (cutv t h l n).2.2 ≤ 18446744073709551615) ∧ validB t (cutv t h l n).2.1 (cutv t h l n).2.2 = true := by
  unfold cutv
  cases t with
  | true =>
    simp only [if_pos]
    have r1 := Fx_range (min n 64) 64 hh.1
    have r2 := Fx_range (min (n - 64) 64) 64 hl.1
    exact ⟨by omega, by omega, rfl⟩
  | false =>
    simp only [Bool.false_eq_true, if_false]
    have r2 := Fx_range (min n 32) 32 hl.1
    obtain ⟨_, q⟩ := four_lt hv
    refine ⟨by omega, by omega, ?_⟩
    unfold validB
    simp only [Bool.false_or, beq_self_eq_true, Bool.true_and, decide_eq_true_eq]
    omega
theorem holdsB_eq (l : If.Lo) (a : If.Ad) (n : Nat) (hn : l.f1 = n) (hv : validB l.f0.f0 l.f0.f1 l.f0.f2 = true) (hw : n ≤ wd l.f0.f0) (r1 : 0 ≤ l.f0.f1 ∧ l.f0.f1 ≤ 18446744073709551615) (r2 : 0 ≤ l.f0.f2 ∧ l.f0.f2 ≤ 18446744073709551615) (r3 : 0 ≤ a.f1 ∧ a.f1 ≤ 18446744073709551615) (r4 : 0 ≤ a.f2 ∧ a.f2 ≤ 18446744073709551615) :
    If.holdsB l a = (validB a.f0 a.f1 a.f2 && (l.f0.f0 == a.f0) && decide (cutv a.f0 a.f1 a.f2 n = cutv l.f0.f0 l.f0.f1 l.f0.f2 n)) := by
  obtain ⟨⟨t, h, lo⟩, bits⟩ := l
  obtain ⟨t', h', lo'⟩ := a
  simp only at *
  subst hn
  have hw8 := wd_le t
  obtain ⟨q, hq, _, hf⟩ := of_err t h lo (n : Int)
  obtain ⟨c, hc, rfl⟩ := hf ⟨hv, by omega, by omega⟩
  rw [cut_eq t h lo r1 r2 n (by omega)] at hc
  obtain rfl := Option.some.inj hc
  obtain ⟨g1, g2, g3⟩ := cutv_range n r1 r2 hv
  have hone := cutv_one t h lo n
  have hpv : prefix_Valid.f (cutv t h lo n).1 (cutv t h lo n).2.1 (cutv t h lo n).2.2 (n : Int) = some true := by
    rw [hone]
    unfold prefix_Valid.f
    rw [valid_eq, pwidth_eq, g3]
    simp only [Option.bind_some, if_pos]
    rw [if_pos (by omega), if_pos (by omega), cut_eq t _ _ g1 g2 n (by omega)]
    simp only [Option.bind_some]
    rw [cutv_idem, hone]
    simp
  unfold If.holdsB
  simp only
  rw [hq]
  simp only [Option.bind_some]
  unfold prefix_Holds.f
  rw [hpv, valid_eq]
  simp only [Option.bind_some, if_pos]
  rw [hone]
  by_cases v2 : validB t' h' lo' = true
  · rw [if_pos v2, v2, Bool.true_and]
    by_cases h6 : (t == t') = true
    · rw [if_pos h6, h6, Bool.true_and]
      have e6 : t = t' := by simpa using h6
      subst e6
      rw [cut_eq t h' lo' r3 r4 n (by omega)]
      simp only [Option.bind_some]
      show ((cutv t h' lo' n).1 == t && ((cutv t h' lo' n).2.1 == (cutv t h lo n).2.1 && (cutv t h' lo' n).2.2 == (cutv t h lo n).2.2)) = _
      rw [cutv_one]
      rw [Bool.eq_iff_iff]
      simp only [beq_self_eq_true, Bool.true_and, Bool.and_eq_true, beq_iff_eq, decide_eq_true_eq]
      constructor
      · rintro ⟨x, y⟩
        exact Prod.ext (by rw [cutv_one, cutv_one]) (Prod.ext x y)
      · intro x
        rw [x]; exact ⟨rfl, rfl⟩
    · rw [if_neg h6]
      have : (t == t') = false := by simpa using h6
      rw [this]; rfl
  · rw [if_neg v2]
    have : validB t' h' lo' = false := by simpa using v2
    rw [this]; rfl
theorem holds_ev (l : If.Lo) (a : If.Ad) (hm : If.mayB l.f0 l.f1 = true) (r1 : 0 ≤ l.f0.f1 ∧ l.f0.f1 ≤ 18446744073709551615) (r2 : 0 ≤ l.f0.f2 ∧ l.f0.f2 ≤ 18446744073709551615) (r3 : 0 ≤ a.f1 ∧ a.f1 ≤ 18446744073709551615) (r4 : 0 ≤ a.f2 ∧ a.f2 ≤ 18446744073709551615) :
    Ev (fun k => crosswayref14_holds.f k l.f0.f0 l.f0.f1 l.f0.f2 l.f1 a.f0 a.f1 a.f2) (If.holdsB l a) := by
  obtain ⟨_, hv, hb1, hb2⟩ := (may_iff l.f0 l.f1).1 hm
  obtain ⟨n, hn⟩ : ∃ n : Nat, l.f1 = n := ⟨l.f1.toNat, by omega⟩
  rw [holdsB_eq l a n hn hv (by omega) r1 r2 r3 r4]
  unfold crosswayref14_holds.f
  rw [hn]
  have fin : ∀ {z : Int} {b : Bool}, Ev (fun k => crosswayref04_Common.f k l.f0.f0 l.f0.f1 l.f0.f2 a.f0 a.f1 a.f2) z → decide (z ≥ (n : Int)) = b → Ev (fun k => (crosswayref04_Common.f k l.f0.f0 l.f0.f1 l.f0.f2 a.f0 a.f1 a.f2).bind fun t => some (decide (t ≥ (n : Int)))) b := fun hz hb => Ev.bind hz (ev_eq fun _ => by rw [hb])
  have neg : ∀ {f : Nat → Option Int}, (∀ k, f (k + 1) = some (-1)) → Ev f (-1) := fun h => Ev.step (f := fun _ => some (-1)) h (Ev.now _)
  by_cases va : validB a.f0 a.f1 a.f2 = true
  · by_cases h6 : l.f0.f0 = a.f0
    · have e6 : (l.f0.f0 == a.f0) = true := by simpa using h6
      rw [va, e6, Bool.true_and, Bool.true_and]
      refine fin (z := ((com (eqb l.f0.f0 l.f0.f1 l.f0.f2 a.f1 a.f2) (wd l.f0.f0) 0 : Nat) : Int)) ?_ ?_
      · unfold crosswayref04_Common.f
        refine ev_bind (rvalid_eq _ _ _) (ev_bind (rvalid_eq _ _ _) (ev_pos hv (ev_pos va ?_)))
        refine Ev.step (f := fun k => crosswayref04_Common.l0 k 0 l.f0.f0 l.f0.f1 l.f0.f2 a.f0 a.f1 a.f2) (fun k => by simp only [crosswayref04_Common.j0]; rw [if_neg (by rw [h6]; simp)]) ?_
        rw [← h6] at va ⊢
        exact common_l0 l.f0.f0 l.f0.f1 l.f0.f2 a.f1 a.f2 r1 r2 hv r3 r4 va (wd l.f0.f0) 0 (by omega)
      · rw [decide_eq_decide]
        rw [← h6] at va ⊢
        have k1 := com_ge (p := eqb l.f0.f0 l.f0.f1 l.f0.f2 a.f1 a.f2) (wd l.f0.f0) 0 n (by omega)
        have k2 := cut_bits l.f0.f0 a.f1 a.f2 l.f0.f1 l.f0.f2 r3 r4 va r1 r2 hv n (by omega)
        rw [k2]
        constructor
        · intro q i hi
          have := k1.1 (by omega) i (by omega) hi
          unfold eqb at this
          exact (by simpa using this : bv l.f0.f0 l.f0.f1 l.f0.f2 i = bv l.f0.f0 a.f1 a.f2 i).symm
        · intro q
          have := k1.2 (fun j _ hj => by unfold eqb; rw [q j hj]; simp)
          omega
    · have e6 : (l.f0.f0 == a.f0) = false := by simpa using h6
      rw [va, e6, Bool.true_and, Bool.false_and]
      refine fin (z := -1) ?_ (decide_eq_false (by omega))
      unfold crosswayref04_Common.f
      refine ev_bind (rvalid_eq _ _ _) (ev_bind (rvalid_eq _ _ _) (ev_pos hv (ev_pos va (neg (fun k => ?_)))))
      simp only [crosswayref04_Common.j0]
      rw [if_pos (by simpa using h6)]
  · have e : validB a.f0 a.f1 a.f2 = false := by simpa using va
    rw [e, Bool.false_and, Bool.false_and]
    refine fin (z := -1) ?_ (decide_eq_false (by omega))
    unfold crosswayref04_Common.f
    refine ev_bind (rvalid_eq _ _ _) (ev_bind (rvalid_eq _ _ _) (ev_pos hv (ev_neg va (neg (fun k => ?_)))))
    simp only [crosswayref04_Common.j0]
    exact if_pos True.intro
/-! Names. -/
theorem name_l0 (s : ByteArray) (hs : s.size ≤ 8) (h1 : 1 ≤ s.size) : ∀ d i : Nat, i + d = s.size → (∀ j, j < i → WIf.okAt s j = true) → Ev (fun k => crosswayref14_Name.l0 k s (i : Int)) (If.nameB s) := by
  intro d
  induction d with
  | zero =>
    intro i hi hok
    refine Ev.step (f := fun _ => some true) (fun k => ?_) ?_
    · simp only [crosswayref14_Name.l0]
      rw [if_neg (by omega)]
    · rw [WIf.nameB_of (fun j hj => hok j (by omega)), decide_eq_true ⟨h1, hs⟩]
      exact Ev.now _
  | succ d ih =>
    intro i hi hok
    have key : ∀ k, crosswayref14_Name.l0 (k + 1) s (i : Int) = if WIf.okAt s i = true then crosswayref14_Name.l0 k s ((i + 1 : Nat) : Int) else some false := by
      intro k
      simp only [crosswayref14_Name.l0]
      rw [if_pos (by omega), if_pos (by omega), w64 (by omega) (by omega), show (i : Int) + 1 = ((i + 1 : Nat) : Int) by omega]
      unfold WIf.okAt If.low If.dig
      generalize bt s (i : Int) = b
      simp only [Bool.or_eq_true, Bool.and_eq_true, decide_eq_true_eq]
      repeat' split
      all_goals first | rfl | (exfalso; omega)
    by_cases c : WIf.okAt s i = true
    · refine Ev.step (f := fun k => crosswayref14_Name.l0 k s ((i + 1 : Nat) : Int)) (fun k => by rw [key, if_pos c]) (ih (i + 1) (by omega) (fun j hj => ?_))
      by_cases e : j = i
      · rw [e]; exact c
      · exact hok j (by omega)
    · refine Ev.step (f := fun _ => some false) (fun k => by rw [key, if_neg c]) ?_
      rw [WIf.nameB_not (i := i) (by omega) (by simpa using c)]
      exact Ev.now _
theorem name_ev (s : ByteArray) (hs : s.size ≤ maxLen) : Ev (fun k => crosswayref14_Name.f k s) (If.nameB s) := by
  unfold crosswayref14_Name.f
  have hz : s.toList = [] ↔ s.size = 0 := by
    rw [ByteArray.toList_eq, ← List.length_eq_zero_iff, data_length]
  have no : (¬ (1 ≤ s.size ∧ s.size ≤ 8)) → If.nameB s = false := fun h => by unfold If.nameB; rw [decide_eq_false h, Bool.false_and]
  by_cases h0 : s.size = 0
  · refine ev_pos (hz.2 h0) (Ev.step (f := fun _ => some false) (fun k => by simp only [crosswayref14_Name.j0]; exact if_pos True.intro) ?_)
    rw [no (by omega)]
    exact Ev.now _
  · refine ev_neg (fun q => h0 (hz.1 q)) ?_
    by_cases h8 : s.size ≤ 8
    · rw [decide_eq_false (by omega)]
      exact Ev.step (f := fun k => crosswayref14_Name.l0 k s 0) (fun k => by simp only [crosswayref14_Name.j0]; rw [if_neg (by decide)]) (name_l0 s h8 (by omega) s.size 0 (by omega) (fun j hj => by omega))
    · rw [decide_eq_true (by omega), no (by omega)]
      exact Ev.step (f := fun _ => some false) (fun k => by simp only [crosswayref14_Name.j0]; exact if_pos True.intro) (Ev.now _)
end Go.Proofs.Ytefbcigccfkkgaa.Pure
