/-
  What the functions on a group's address come to; the pure law EtherGroups. No program in sight but their Lean functions. Conditions: those of each theorem.
-/
import Derived.Test.YthajbaheejdoaaaDoorPBasex22
import Derived.Test.YthajbaheejdoaaaDoorMTally
import Derived.Test.YthajbaheejdoaaaDoorMBytes
import Derived.Laws.BitsLemmas
set_option linter.unusedVariables false
set_option linter.unusedSimpArgs false
namespace Go.Proofs.YthajbaheejdoaaaDoor.Pure
open Go.RowKit Go.Proofs.YthajbaheejdoaaaDoor.PBase Go.Proofs.YthajbaheejdoaaaDoorW.PrintWords Go.Proofs.YthajbaheejdoaaaDoorW.PrintLast Go.Proofs.YthajbaheejdoaaaDoor.MTally Go.Proofs.YthajbaheejdoaaaDoor.MBe
/-! Small steps for what printed functions come to. -/
theorem w64 {n : Int} (h0 : -9223372036854775808 ≤ n) (h1 : n ≤ 9223372036854775807) : wrap64 n = n := by unfold wrap64; omega
theorem wu64 {n : Int} (h0 : 0 ≤ n) (h1 : n < 18446744073709551616) : IntKind.u64.wrap n = n := by
  simp only [IntKind.wrap, IntKind.signed, IntKind.bits, Bool.false_and, Bool.false_eq_true, if_false]; omega
theorem wu64' (n : Int) : IntKind.u64.wrap n = n % 18446744073709551616 := by
  simp only [IntKind.wrap, IntKind.signed, IntKind.bits, Bool.false_and, Bool.false_eq_true, if_false]; rfl
theorem wu32 {n : Int} (h0 : 0 ≤ n) (h1 : n < 4294967296) : IntKind.u32.wrap n = n := by
  simp only [IntKind.wrap, IntKind.signed, IntKind.bits, Bool.false_and, Bool.false_eq_true, if_false]; omega
theorem wu16 {n : Int} (h0 : 0 ≤ n) (h1 : n < 65536) : IntKind.u16.wrap n = n := by
  simp only [IntKind.wrap, IntKind.signed, IntKind.bits, Bool.false_and, Bool.false_eq_true, if_false]; omega
theorem wu8 {n : Int} (h0 : 0 ≤ n) (h1 : n < 256) : IntKind.u8.wrap n = n := by
  simp only [IntKind.wrap, IntKind.signed, IntKind.bits, Bool.false_and, Bool.false_eq_true, if_false]; omega
theorem ev_pos {α : Type} {c : Prop} [Decidable c] {f g : Nat → Option α} {r : α} (hc : c) (h : Ev f r) : Ev (fun k => if c then f k else g k) r := by
  simp only [if_pos hc]; exact h
theorem ev_neg {α : Type} {c : Prop} [Decidable c] {f g : Nat → Option α} {r : α} (hc : ¬ c) (h : Ev g r) : Ev (fun k => if c then f k else g k) r := by
  simp only [if_neg hc]; exact h
theorem ev_eq {α : Type} {f : Nat → Option α} {r : α} (h : ∀ k, f k = some r) : Ev f r := ⟨0, fun k _ => h k⟩
theorem ev_bind {α β : Type} {o : Option α} {f : Nat → α → Option β} {a : α} {r : β} (h : o = some a) (k : Ev (fun n => f n a) r) : Ev (fun n => o.bind (f n)) r := by
  subst h; exact k
theorem rd_at {xs : List Int} {i : Nat} (h : i < xs.length) : rd xs (i : Int) = xs[i] := by
  simp [rd, List.getElem?_eq_getElem h]
theorem byte_at {xs : List Int} (hb : Bytes xs) {i : Nat} (h : i < xs.length) : 0 ≤ xs[i] ∧ xs[i] ≤ 255 := hb _ (List.getElem_mem h)
theorem byte_of_wf {a : Int} (h : (Lit.int .u8 a).wf = true) : 0 ≤ a ∧ a ≤ 255 := by
  have := h
  simp [Lit.wf, IntKind.min, IntKind.max, IntKind.signed, IntKind.bits] at this
  exact this
theorem i64_of_wf {a : Int} (h : (Lit.int .i64 a).wf = true) : -9223372036854775808 ≤ a ∧ a ≤ 9223372036854775807 := by
  have := h
  simp [Lit.wf, IntKind.min, IntKind.max, IntKind.signed, IntKind.bits] at this
  exact this
theorem u64_of_wf {a : Int} (h : (Lit.int .u64 a).wf = true) : 0 ≤ a ∧ a ≤ 18446744073709551615 := by
  have := h
  simp [Lit.wf, IntKind.min, IntKind.max, IntKind.signed, IntKind.bits] at this
  exact this
theorem u32_of_wf {a : Int} (h : (Lit.int .u32 a).wf = true) : 0 ≤ a ∧ a ≤ 4294967295 := by
  have := h
  simp [Lit.wf, IntKind.min, IntKind.max, IntKind.signed, IntKind.bits] at this
  exact this
theorem u16_of_wf {a : Int} (h : (Lit.int .u16 a).wf = true) : 0 ≤ a ∧ a ≤ 65535 := by
  have := h
  simp [Lit.wf, IntKind.min, IntKind.max, IntKind.signed, IntKind.bits] at this
  exact this
theorem bytes_of_wf {l : List Int} (h : ∀ x ∈ l, (Lit.int .u8 x).wf = true) : Bytes l := fun x hx => byte_of_wf (h x hx)
/-! octet.Get: the number at a place, or none. -/
def fits (l : List Int) (at_ w : Int) : Prop := 0 ≤ w ∧ w ≤ 8 ∧ 0 ≤ at_ ∧ at_ + w ≤ (l.length : Int)
instance (l : List Int) (a w : Int) : Decidable (fits l a w) := by unfold fits; infer_instance
def slice_ (l : List Int) (at_ w : Int) : List Int := (l.drop at_.toNat).take w.toNat
def get (l : List Int) (at_ w : Int) : Int × Bool := if fits l at_ w then (num (slice_ l at_ w), true) else (0, false)
theorem slice_length {l : List Int} {a w : Int} (h : fits l a w) : (slice_ l a w).length = w.toNat := by
  unfold fits at h; unfold slice_; rw [List.length_take, List.length_drop]; omega
theorem slice_bytes {l : List Int} (hb : Bytes l) (a w : Int) : Bytes (slice_ l a w) := (hb.drop _).take _
theorem p256 {i : Nat} (h : i ≤ 8) : (256 : Int) ^ i ≤ 18446744073709551616 := by
  rcases i with _ | _ | _ | _ | _ | _ | _ | _ | _ | i <;> first | decide | (exfalso; omega)
theorem p256' {i : Nat} (h : i ≤ 7) : (256 : Int) ^ i ≤ 72057594037927936 := by
  rcases i with _ | _ | _ | _ | _ | _ | _ | _ | i <;> first | decide | (exfalso; omega)
theorem num_lt {l : List Int} (hb : Bytes l) (h : l.length ≤ 7) : 0 ≤ num l ∧ num l < 72057594037927936 := by
  have h1 := num_range hb; have h2 := p256' h; exact ⟨h1.1, Int.lt_of_lt_of_le h1.2 h2⟩
theorem num_lt8 {l : List Int} (hb : Bytes l) (h : l.length ≤ 8) : 0 ≤ num l ∧ num l < 18446744073709551616 := by
  have h1 := num_range hb; have h2 := p256 h; exact ⟨h1.1, Int.lt_of_lt_of_le h1.2 h2⟩
theorem or_byte {n b : Int} (h0 : 0 ≤ n) (h1 : n < 72057594037927936) (hb : 0 ≤ b ∧ b ≤ 255) : Go.bits .or .u64 (IntKind.u64.wrap (n * 256)) (IntKind.u64.wrap b) = n * 256 + b := by
  rw [wu64 (n := n * 256) (by omega) (by omega), wu64 (n := b) (by omega) (by omega)]
  refine bits_join .u64 64 (by decide) (fun m h2 h3 => wu64 h2 (by omega)) 8 _ _ (by omega) (by omega) (by omega) hb.1 (by omega) (by omega)
theorem take_snoc {l : List Int} {a i : Nat} (h : a + i < l.length) : (l.drop a).take (i + 1) = (l.drop a).take i ++ [l[a + i]] := by
  rw [List.take_add_one]
  congr 1
  rw [List.getElem?_drop, List.getElem?_eq_getElem h]; rfl
theorem get_l0 {l : List Int} (hb : Bytes l) (hl : l.length ≤ 140737488355200) {a w : Nat} (hw : w ≤ 8) (hf : a + w ≤ l.length) : ∀ d i : Nat, w = i + d →
    Ev (fun k => octet_Get.l0 k l (a : Int) (num ((l.drop a).take i)) (w : Int) (i : Int)) (num ((l.drop a).take w), true) := by
  intro d
  induction d with
  | zero =>
    intro i he
    have e : i = w := by omega
    subst e
    refine Ev.step (f := fun _ => _) (fun k => ?_) (Ev.now _)
    simp only [octet_Get.l0]; rw [if_neg (by omega)]
  | succ d ih =>
    intro i he
    have hlt : a + i < l.length := by omega
    have hbt := byte_at hb hlt
    have hn := num_lt (l := (l.drop a).take i) ((hb.drop _).take _) (by rw [List.length_take]; omega)
    refine Ev.step (f := fun k => octet_Get.l0 k l (a : Int) (num ((l.drop a).take (i + 1))) (w : Int) ((i + 1 : Nat) : Int)) (fun k => ?_) (ih (i + 1) (by omega))
    simp only [octet_Get.l0]
    rw [if_pos (by omega), w64 (n := (a : Int) + (i : Int)) (by omega) (by omega), if_pos (by omega), if_pos (by omega), w64 (n := (i : Int) + 1) (by omega) (by omega)]
    rw [show (a : Int) + (i : Int) = ((a + i : Nat) : Int) by omega, rd_at hlt, or_byte hn.1 hn.2 hbt, take_snoc hlt, num_snoc]; rfl
theorem get_ev {l : List Int} (hb : Bytes l) (hl : l.length ≤ 140737488355200) {a w : Int} (ha : -9223372036854775808 ≤ a ∧ a ≤ 9223372036854775807) (hw : -9223372036854775808 ≤ w ∧ w ≤ 9223372036854775807) :
    Ev (fun k => octet_Get.f k l a w) (get l a w) := by
  have none_ : ∀ k x0 x1 x2, octet_Get.j0 (k + 1) x0 x1 x2 true = some (0, false) := fun k x0 x1 x2 => by simp only [octet_Get.j0]; rw [if_pos trivial]
  have bad : ∀ {a' w' : Int}, Ev (fun k => octet_Get.j0 k l a' w' true) (0, false) := Ev.step (f := fun _ => _) (fun k => none_ k _ _ _) (Ev.now _)
  unfold octet_Get.f get
  by_cases h1 : w < 0
  · rw [if_neg (by unfold fits; omega)]; exact ev_pos h1 bad
  refine ev_neg h1 ?_
  by_cases h2 : w > 8
  · rw [if_neg (by unfold fits; omega)]; exact ev_pos h2 bad
  refine ev_neg h2 ?_
  by_cases h3 : a < 0
  · rw [if_neg (by unfold fits; omega)]; exact ev_pos h3 bad
  refine ev_neg h3 ?_
  by_cases h4 : a > (l.length : Int)
  · rw [if_neg (by unfold fits; omega)]; exact ev_pos h4 bad
  refine ev_neg h4 ?_
  rw [w64 (n := (l.length : Int) - a) (by omega) (by omega)]
  by_cases h5 : w > (l.length : Int) - a
  · rw [if_neg (by unfold fits; omega), decide_eq_true h5]; exact bad
  rw [if_pos (by unfold fits; omega), decide_eq_false h5]
  obtain ⟨an, rfl⟩ := Int.eq_ofNat_of_zero_le (show 0 ≤ a by omega)
  obtain ⟨wn, rfl⟩ := Int.eq_ofNat_of_zero_le (show 0 ≤ w by omega)
  have h := get_l0 hb hl (a := an) (w := wn) (by omega) (by omega) wn 0 (by omega)
  refine Ev.step (f := fun k => octet_Get.l0 k l (an : Int) 0 (wn : Int) 0) (fun k => ?_) ?_
  · simp only [octet_Get.j0]; rw [if_neg (by decide)]
  · exact h
/-! What the reference's Put lays. -/
theorem put_l1 (n : Int) (hn : 0 ≤ n ∧ n ≤ 18446744073709551615) (acc : List Int) (i : Nat) (r : List Int) (hi : i < 8) (hl : acc.length < 140737488355328)
    (h : Ev (fun k => crosswayref01_Put.l0 k n (acc ++ [n / 256 ^ i % 256]) ((i : Int) - 1)) r) : ∀ d j : Nat, i = j + d → Ev (fun k => crosswayref01_Put.l1 k n acc (i : Int) (n / 256 ^ j) (j : Int)) r := by
  intro d
  induction d with
  | zero =>
    intro j e
    obtain rfl : i = j := by omega
    refine Ev.step (f := fun k => crosswayref01_Put.l0 k n (acc ++ [n / 256 ^ i % 256]) ((i : Int) - 1)) (fun k => ?_) h
    simp only [crosswayref01_Put.l1]
    have h0 : 0 ≤ n / 256 ^ i := Int.ediv_nonneg hn.1 (Int.le_of_lt (pow_pos i))
    rw [if_neg (by omega), if_pos hl, Int.tmod_eq_emod_of_nonneg h0, w64 (by omega) (by omega), Int.emod_emod_of_dvd _ (Int.dvd_refl _)]
  | succ d ih =>
    intro j e
    refine Ev.step (f := fun k => crosswayref01_Put.l1 k n acc (i : Int) (n / 256 ^ (j + 1)) ((j + 1 : Nat) : Int)) (fun k => ?_) (ih (j + 1) (by omega))
    simp only [crosswayref01_Put.l1]
    have h0 : 0 ≤ n / 256 ^ j := Int.ediv_nonneg hn.1 (Int.le_of_lt (pow_pos j))
    have h1 : n / 256 ^ j ≤ n := Int.ediv_le_self _ hn.1
    have h2 : IntKind.u64.wrap (Int.tdiv (n / 256 ^ j) 256) = n / 256 ^ (j + 1) := by
      rw [Int.tdiv_eq_ediv_of_nonneg h0, ← div_div]
      simp only [IntKind.wrap, IntKind.signed, IntKind.bits, Bool.false_and, Bool.false_eq_true, if_false]
      omega
    have h3 : wrap64 ((j : Int) + 1) = ((j + 1 : Nat) : Int) := by rw [w64 (by omega) (by omega)]; omega
    rw [if_pos (by omega), h2, h3]
theorem put_l0 (n : Int) (hn : 0 ≤ n ∧ n ≤ 18446744073709551615) : ∀ (w : Nat) (acc : List Int), w ≤ 8 → acc.length + w < 140737488355328 →
    Ev (fun k => crosswayref01_Put.l0 k n acc ((w : Int) - 1)) (acc ++ be n w) := by
  intro w
  induction w with
  | zero =>
    intro acc _ _
    refine Ev.step (f := fun _ => some acc) (fun k => ?_) (by simp only [be, List.append_nil]; exact Ev.now _)
    simp only [crosswayref01_Put.l0]; rw [if_neg (by omega)]
  | succ w ih =>
    intro acc hw hl
    refine Ev.step (f := fun k => crosswayref01_Put.l1 k n acc (w : Int) (n / 256 ^ 0) ((0 : Nat) : Int)) (fun k => ?_) ?_
    · simp only [crosswayref01_Put.l0]
      rw [if_pos (by omega), show ((w + 1 : Nat) : Int) - 1 = (w : Int) by omega]; simp
    · refine put_l1 n hn acc w _ (by omega) (by omega) ?_ w 0 (by omega)
      have h := ih (acc ++ [n / 256 ^ w % 256]) (by omega) (by simp only [List.length_append, List.length_cons, List.length_nil]; omega)
      rw [List.append_assoc] at h
      exact h
/-- The width as it is taken: from 0 to 8. -/
def wid (w : Int) : Nat := (mn (mx w 0) 8).toNat
theorem wid_eq (w : Int) : mn (mx w 0) 8 = (wid w : Int) := by
  unfold wid mn mx; split <;> split <;> omega
theorem wid_le (w : Int) : wid w ≤ 8 := by
  unfold wid mn mx; split <;> split <;> omega
theorem wid_of {w : Nat} (h : w ≤ 8) : wid (w : Int) = w := by
  unfold wid mn mx; split <;> split <;> omega
theorem rput_ev (l : List Int) (w n : Int) (hn : 0 ≤ n ∧ n ≤ 18446744073709551615) (hl : l.length ≤ 140737488351232) :
    Ev (fun k => crosswayref01_Put.f k l w n) (l ++ be n (wid w)) := by
  unfold crosswayref01_Put.f
  have hw := wid_le w
  refine ev_pos (by simp only [List.length_nil]; omega) ?_
  rw [wid_eq, List.nil_append]
  exact put_l0 n hn (wid w) l hw (by omega)
/-! Addresses: valid, class, bytes. -/
def validB (t : Bool) (h l : Int) : Bool := t || (h == 0 && decide (l < 4294967296))
def cls (t : Bool) (h l : Int) : Int :=
  if t = true then (if h = 0 ∧ l = 0 then 0 else if h = 0 ∧ l = 1 then 1 else if h / 18014398509481984 = 1018 then 2 else if h / 72057594037927936 = 255 then 3 else 5)
  else if ¬ (h = 0 ∧ l < 4294967296) then -1 else if l = 0 then 0 else if l / 16777216 = 127 then 1 else if l / 65536 = 43518 then 2 else if l = 4294967295 then 4 else if l / 268435456 = 14 then 3 else 5
theorem valid_eq (t : Bool) (h l : Int) : addr_Valid.f t h l = some (validB t h l) := by
  unfold addr_Valid.f validB
  cases t
  · by_cases e : h = 0 <;> simp [e]
  · rfl
theorem class_eq (t : Bool) (h l : Int) : addr_Class.f t h l = some (cls t h l) := by
  unfold addr_Class.f
  rw [valid_eq, Option.bind_some]
  unfold validB cls
  cases t
  · by_cases e : h = 0 ∧ l < 4294967296
    · obtain ⟨rfl, e2⟩ := e
      simp only [Bool.false_or, beq_self_eq_true, Bool.true_and, decide_eq_true e2, if_true, Bool.false_eq_true, if_false, e2, and_self, not_true_eq_false]
      (repeat' split) <;> first | rfl | (exfalso; omega) | contradiction
    · have : (h == 0 && decide (l < 4294967296)) = false := by
        cases h1 : (h == 0 && decide (l < 4294967296))
        · rfl
        · exfalso; apply e; simpa using h1
      simp only [Bool.false_or, this, Bool.false_eq_true, if_false, e, not_false_eq_true, if_true]
  · simp only [Bool.true_or, if_true]
    unfold addr_classSix.f
    by_cases h0 : h = 0
    · subst h0
      by_cases l0 : l = 0
      · subst l0; rfl
      · by_cases l1 : l = 1
        · subst l1; rfl
        · simp [l0, l1]
    · by_cases h2 : h / 18014398509481984 = 1018
      · simp [h0, h2]
      · by_cases h3 : h / 72057594037927936 = 255
        · simp [h0, h2, h3]
        · simp [h0, h2, h3]
theorem rvalid_eq (t : Bool) (h l : Int) : crosswayref03_Valid.f t h l = some (validB t h l) := by
  unfold crosswayref03_Valid.f validB
  cases t
  · by_cases e : h = 0 <;> simp [e]
  · rfl
/-- An address's bytes. -/
def adr (t : Bool) (h l : Int) : List Int := if t = true then be h 8 ++ be l 8 else if h = 0 ∧ l < 4294967296 then be l 4 else []
/-! The reference's class and bytes. -/
theorem rbytes_ev (t : Bool) (h l : Int) (hh : 0 ≤ h ∧ h ≤ 18446744073709551615) (hl : 0 ≤ l ∧ l ≤ 18446744073709551615) : Ev (fun k => crosswayref03_Bytes.f k t h l) (adr t h l) := by
  unfold crosswayref03_Bytes.f
  refine ev_bind (rvalid_eq t h l) ?_
  unfold adr validB
  have w8 : wid 8 = 8 := wid_of (w := 8) (by decide)
  have w4 : wid 4 = 4 := wid_of (w := 4) (by decide)
  cases t
  · by_cases e : h = 0 ∧ l < 4294967296
    · rw [if_neg (by decide), if_pos e]
      refine ev_pos (by simp [e.1, e.2]) (ev_neg (by decide) ?_)
      have h1 := rput_ev [] 4 l hl (by simp)
      rw [w4, List.nil_append] at h1
      exact Ev.bind h1 (ev_eq fun _ => rfl)
    · rw [if_neg (by decide), if_neg e]
      exact ev_neg (by intro h1; apply e; simpa using h1) (ev_eq fun _ => rfl)
  · rw [if_pos rfl]
    refine ev_pos rfl (ev_pos rfl ?_)
    have h1 := rput_ev [] 8 h hh (by simp)
    have h2 := rput_ev (be h 8) 8 l hl (by rw [be_length]; omega)
    rw [w8, List.nil_append] at h1
    rw [w8] at h2
    exact Ev.bind h1 (Ev.bind h2 (ev_eq fun _ => rfl))
theorem adr_rd (n m : Int) : rd (be n 8 ++ be m 8) 0 = n / 72057594037927936 % 256 ∧ rd (be n 8 ++ be m 8) 1 = n / 281474976710656 % 256 := by
  simp only [be, List.cons_append, rd]
  constructor <;> rfl
theorem adr_rd4 (n : Int) : rd (be n 4) 0 = n / 16777216 % 256 ∧ rd (be n 4) 1 = n / 65536 % 256 := by
  simp only [be, rd]
  constructor <;> rfl
theorem rclass_ev (t : Bool) (h l : Int) (hh : 0 ≤ h ∧ h ≤ 18446744073709551615) (hl : 0 ≤ l ∧ l ≤ 18446744073709551615) : Ev (fun k => crosswayref03_Class.f k t h l) (cls t h l) := by
  unfold crosswayref03_Class.f
  refine ev_bind (rvalid_eq t h l) ?_
  unfold validB cls
  have hby := rbytes_ev t h l hh hl
  unfold adr at hby
  cases t
  · rw [if_neg (by decide)] at hby ⊢
    by_cases e : h = 0 ∧ l < 4294967296
    · rw [if_pos e] at hby
      rw [if_neg (by simpa using e)]
      have r0 := (adr_rd4 l).1
      have r1 := (adr_rd4 l).2
      have z0 : wrap64 (rd (be l 4) 0) = l / 16777216 := by rw [r0, w64 (by omega) (by omega)]; omega
      refine ev_pos (by simp [e.1, e.2]) (Ev.bind hby (ev_pos (by rw [be_length]; omega) (ev_neg (by decide) ?_)))
      rw [z0]
      by_cases c0 : l = 0
      · rw [if_pos c0]; exact ev_pos c0 (ev_eq fun _ => rfl)
      rw [if_neg c0]; refine ev_neg c0 ?_
      by_cases c1 : l / 16777216 = 127
      · rw [if_pos c1]; exact ev_pos c1 (ev_eq fun _ => rfl)
      rw [if_neg c1]; refine ev_neg c1 ?_
      have j3 : ∀ b : Bool, Ev (fun k => crosswayref03_Class.j3 k (l / 16777216) b false h l) (if b = true then 2 else if l = 4294967295 then 4 else if l / 268435456 = 14 then 3 else 5) := by
        intro b
        have z1 : wrap64 (Int.tdiv (l / 16777216) 16) = l / 268435456 := by
          rw [Int.tdiv_eq_ediv_of_nonneg (by omega), w64 (by omega) (by omega)]; omega
        refine Ev.step (f := fun _ => some (if b = true then 2 else if l = 4294967295 then 4 else if l / 268435456 = 14 then 3 else 5)) (fun k => ?_) (Ev.now _)
        simp only [crosswayref03_Class.j3]
        rw [z1]
        cases b
        · simp only [Bool.false_eq_true, if_false]
          (repeat' split) <;> first | rfl | (exfalso; omega) | contradiction
        · rfl
      by_cases c2 : l / 16777216 = 169
      · refine ev_pos c2 (ev_pos (by rw [be_length]; omega) ?_)
        rw [r1]
        have h3 := j3 (l / 65536 % 256 == 254)
        by_cases c3 : l / 65536 = 43518
        · rw [if_pos c3]
          rw [show (l / 65536 % 256 == 254) = true by rw [beq_iff_eq]; omega] at h3 ⊢
          exact h3
        · rw [if_neg c3]
          rw [show (l / 65536 % 256 == 254) = false by rw [beq_eq_false_iff_ne]; omega] at h3 ⊢
          exact h3
      · refine ev_neg c2 ?_
        rw [if_neg (by omega)]
        exact j3 false
    · rw [if_pos e]
      exact ev_neg (by intro h1; apply e; simpa using h1) (ev_eq fun _ => rfl)
  · rw [if_pos rfl] at hby ⊢
    have r0 := (adr_rd h l).1
    have r1 := (adr_rd h l).2
    have z0 : wrap64 (rd (be h 8 ++ be l 8) 0) = h / 72057594037927936 := by rw [r0, w64 (by omega) (by omega)]; omega
    have hlen : (be h 8 ++ be l 8).length = 16 := by rw [List.length_append, be_length, be_length]
    refine ev_pos rfl (Ev.bind hby (ev_pos (by rw [hlen]; omega) (ev_pos rfl ?_)))
    rw [z0]
    have j2 : ∀ b : Bool, Ev (fun k => crosswayref03_Class.j2 k (h / 72057594037927936) b) (if b = true then 2 else if h / 72057594037927936 = 255 then 3 else 5) := by
      intro b
      refine Ev.step (f := fun _ => some (if b = true then 2 else if h / 72057594037927936 = 255 then 3 else 5)) (fun k => ?_) (Ev.now _)
      simp only [crosswayref03_Class.j2]
      cases b
      · simp only [Bool.false_eq_true, if_false]
        (repeat' split) <;> first | rfl | (exfalso; omega) | contradiction
      · rfl
    have j1 : Ev (fun k => crosswayref03_Class.j1 k (be h 8 ++ be l 8) (h / 72057594037927936) false) (if h / 18014398509481984 = 1018 then 2 else if h / 72057594037927936 = 255 then 3 else 5) := by
      by_cases c : h / 72057594037927936 = 254
      · have q : Int.tdiv (h / 281474976710656 % 256) 64 = h / 281474976710656 % 256 / 64 := Int.tdiv_eq_ediv_of_nonneg (by omega)
        have h3 := j2 (h / 281474976710656 % 256 / 64 % 256 == 2)
        refine Ev.step (f := fun k => crosswayref03_Class.j2 k (h / 72057594037927936) (h / 281474976710656 % 256 / 64 % 256 == 2)) (fun k => ?_) ?_
        · simp only [crosswayref03_Class.j1]
          rw [if_neg (by decide), if_pos c, if_pos (by rw [hlen]; omega), r1, q]
        · by_cases c3 : h / 18014398509481984 = 1018
          · rw [if_pos c3]
            rw [show (h / 281474976710656 % 256 / 64 % 256 == 2) = true by rw [beq_iff_eq]; omega] at h3 ⊢
            exact h3
          · rw [if_neg c3]
            rw [show (h / 281474976710656 % 256 / 64 % 256 == 2) = false by rw [beq_eq_false_iff_ne]; omega] at h3 ⊢
            exact h3
      · refine Ev.step (f := fun k => crosswayref03_Class.j2 k (h / 72057594037927936) false) (fun k => ?_) ?_
        · simp only [crosswayref03_Class.j1]
          rw [if_neg (by decide), if_neg c]
        · rw [if_neg (by omega)]
          exact j2 false
    by_cases c0 : h = 0
    · subst c0
      refine ev_pos rfl ?_
      by_cases l0 : l = 0
      · subst l0
        rw [if_pos ⟨rfl, rfl⟩]
        refine Ev.step (f := fun _ => some 0) (fun k => ?_) (Ev.now _)
        simp only [crosswayref03_Class.j0]; rfl
      · rw [if_neg (fun q => l0 q.2)]
        by_cases l1 : l = 1
        · subst l1
          rw [if_pos ⟨rfl, rfl⟩]
          refine Ev.step (f := fun k => crosswayref03_Class.j1 k (be 0 8 ++ be 1 8) (0 / 72057594037927936) true) (fun k => ?_) ?_
          · simp only [crosswayref03_Class.j0]; rfl
          · refine Ev.step (f := fun _ => some 1) (fun k => ?_) (Ev.now _)
            simp only [crosswayref03_Class.j1]; rfl
        · rw [if_neg (fun q => l1 q.2)]
          refine Ev.step (f := fun k => crosswayref03_Class.j1 k (be 0 8 ++ be l 8) (0 / 72057594037927936) false) (fun k => ?_) j1
          simp only [crosswayref03_Class.j0]
          rw [if_neg (by simpa using l0), if_pos trivial, show (l == 1) = false by simpa using l1]
    · rw [if_neg (fun q => c0 q.1), if_neg (fun q => c0 q.1)]
      refine ev_neg c0 ?_
      refine Ev.step (f := fun k => crosswayref03_Class.j1 k (be h 8 ++ be l 8) (h / 72057594037927936) false) (fun k => ?_) j1
      simp only [crosswayref03_Class.j0]
      rw [if_neg (by decide), if_neg c0]
theorem wraps64 (n : Int) (h0 : 0 ≤ n) (h1 : n < 2 ^ 64) : IntKind.u64.wrap n = n := wu64 h0 (by omega)
theorem low_bits {l : Int} (hl : 0 ≤ l ∧ l ≤ 18446744073709551615) (i : Nat) (hi : i ≤ 32) : Go.bits .and .u64 l (2 ^ i - 1) = l % 2 ^ i := bits_mask .u64 64 (by decide) wraps64 i (by omega) l hl.1 (by omega)
def groupR (t : Bool) (h l : Int) : Int := if cls t h l = 4 then 281474976710655 else if cls t h l = 3 then (if t = true then 56294136348672 + l % 4294967296 else 1101088686080 + l % 8388608) else 0
theorem group_ev (t : Bool) (h l : Int) (hh : 0 ≤ h ∧ h ≤ 18446744073709551615) (hl : 0 ≤ l ∧ l ≤ 18446744073709551615) : Ev (fun k => ether_Group.f k t h l) (groupR t h l) := by
  unfold ether_Group.f
  refine ev_bind (class_eq t h l) ?_
  by_cases c4 : cls t h l = 4
  · have e : groupR t h l = 281474976710655 := by unfold groupR; rw [if_pos c4]
    rw [e]; exact ev_pos c4 (ev_eq fun _ => rfl)
  refine ev_neg c4 ?_
  have m1 := low_bits hl 32 (by decide)
  have m2 := low_bits hl 23 (by decide)
  rw [show (2 : Int) ^ 32 - 1 = 4294967295 by decide, show (2 : Int) ^ 32 = 4294967296 by decide] at m1
  rw [show (2 : Int) ^ 23 - 1 = 8388607 by decide, show (2 : Int) ^ 23 = 8388608 by decide] at m2
  have j1 := bits_join .u64 64 (by decide) wraps64 32 56294136348672 (l % 4294967296) (by decide) (by decide) (by decide) (by omega) (by omega) (by omega)
  have j2 := bits_join .u64 64 (by decide) wraps64 23 1101088686080 (l % 8388608) (by decide) (by decide) (by decide) (by omega) (by omega) (by omega)
  by_cases c3 : cls t h l = 3
  · refine ev_pos c3 ?_
    cases t
    · have e : groupR false h l = 1101088686080 + l % 8388608 := by unfold groupR; rw [if_neg c4, if_pos c3, if_neg (by decide)]
      rw [e]
      refine Ev.step (fun k => by simp only [ether_Group.j0]; rfl) ?_
      exact ev_neg (by decide) (ev_pos c3 (ev_eq fun _ => by rw [m2, j2]))
    · have e : groupR true h l = 56294136348672 + l % 4294967296 := by unfold groupR; rw [if_neg c4, if_pos c3, if_pos rfl]
      rw [e]
      refine Ev.step (fun k => by simp only [ether_Group.j0]; rfl) ?_
      exact ev_pos (by first | exact True.intro | exact rfl) (ev_eq fun _ => by rw [m1, j1])
  · have e : groupR t h l = 0 := by unfold groupR; rw [if_neg c4, if_neg c3]
    rw [e]
    refine ev_neg c3 (Ev.step (fun k => by simp only [ether_Group.j0]; rfl) ?_)
    exact ev_neg (by decide) (ev_neg c3 (ev_eq fun _ => rfl))
theorem rgroup_ev (t : Bool) (h l : Int) (hh : 0 ≤ h ∧ h ≤ 18446744073709551615) (hl : 0 ≤ l ∧ l ≤ 18446744073709551615) : Ev (fun k => crosswayref05_Group.f k t h l) (groupR t h l) := by
  unfold crosswayref05_Group.f
  refine Ev.bind (rclass_ev t h l hh hl) ?_
  by_cases c4 : cls t h l = 4
  · have e : groupR t h l = 281474976710655 := by unfold groupR; rw [if_pos c4]
    rw [e]; exact ev_pos c4 (ev_eq fun _ => rfl)
  refine ev_neg c4 ?_
  by_cases c3 : cls t h l = 3
  · refine ev_pos c3 ?_
    cases t
    · have e : groupR false h l = 1101088686080 + l % 8388608 := by unfold groupR; rw [if_neg c4, if_pos c3, if_neg (by decide)]
      rw [e]
      refine ev_neg (by decide) (ev_eq fun _ => ?_)
      rw [Int.tmod_eq_emod_of_nonneg hl.1, wu64 (by omega) (by omega)]
    · have e : groupR true h l = 56294136348672 + l % 4294967296 := by unfold groupR; rw [if_neg c4, if_pos c3, if_pos rfl]
      rw [e]
      refine ev_pos rfl (ev_eq fun _ => ?_)
      rw [Int.tmod_eq_emod_of_nonneg hl.1, wu64 (by omega) (by omega)]
  · have e : groupR t h l = 0 := by unfold groupR; rw [if_neg c4, if_neg c3]
    rw [e]; exact ev_neg c3 (ev_eq fun _ => rfl)
theorem awake_ev : Ev (fun k => crosswaylaw05_awake.f k) true := Ev.of (fun k => crosswaylaw05_awake.mono k) (k := 100) (by decide +kernel)
theorem EtherGroups (t : Bool) (h l : Int) (w1 : (Lit.int .u64 h).wf = true) (w2 : (Lit.int .u64 l).wf = true) : ∃ k, crosswaylaw05_EtherGroups.f k t h l = some true := by
  refine Ev.rounds (r := true) ?_
  unfold crosswaylaw05_EtherGroups.f
  exact Ev.bind awake_ev (ev_pos rfl (Ev.bind (group_ev t h l (u64_of_wf w1) (u64_of_wf w2)) (Ev.bind (rgroup_ev t h l (u64_of_wf w1) (u64_of_wf w2)) (ev_eq fun _ => by simp))))
end Go.Proofs.YthajbaheejdoaaaDoor.Pure
