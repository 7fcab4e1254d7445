/-
  What the functions on frames come to, the document's beside them. No program in sight but their Lean functions. Conditions: those of each theorem.
-/
import Derived.Test.YthajbaheejdoaaaDoorPBasex4
import Derived.Test.YthajbaheejdoaaaDoorPBasex5
import Derived.Test.YthajbaheejdoaaaDoorPBasex9
import Derived.Test.YthajbaheejdoaaaDoorPBasex10
import Derived.Test.YthajbaheejdoaaaDoorPBasex12
import Derived.Test.YthajbaheejdoaaaDoorMTally
import Derived.Test.YthajbaheejdoaaaDoorMBytes
import Derived.Laws.BitsLemmas
set_option linter.unusedVariables false
set_option linter.unusedSimpArgs false
namespace Go.Proofs.YthajbaheejdoaaaDoor.Pure
open Go.RowKit Go.Proofs.YthajbaheejdoaaaDoor.PBase Go.Proofs.YthajbaheejdoaaaDoorW.PrintWords Go.Proofs.YthajbaheejdoaaaDoorW.PrintLast Go.Proofs.YthajbaheejdoaaaDoor.MTally Go.Proofs.YthajbaheejdoaaaDoor.MBe
/-! Small steps for what printed functions come to. -/
theorem w64 {n : Int} (h0 : -9223372036854775808 ≤ n) (h1 : n ≤ 9223372036854775807) : wrap64 n = n := by unfold wrap64; omega
theorem wu64 {n : Int} (h0 : 0 ≤ n) (h1 : n < 18446744073709551616) : IntKind.u64.wrap n = n := by
  simp only [IntKind.wrap, IntKind.signed, IntKind.bits, Bool.false_and, Bool.false_eq_true, if_false]; omega
theorem wu64' (n : Int) : IntKind.u64.wrap n = n % 18446744073709551616 := by
  simp only [IntKind.wrap, IntKind.signed, IntKind.bits, Bool.false_and, Bool.false_eq_true, if_false]; rfl
theorem wu32 {n : Int} (h0 : 0 ≤ n) (h1 : n < 4294967296) : IntKind.u32.wrap n = n := by
  simp only [IntKind.wrap, IntKind.signed, IntKind.bits, Bool.false_and, Bool.false_eq_true, if_false]; omega
theorem wu16 {n : Int} (h0 : 0 ≤ n) (h1 : n < 65536) : IntKind.u16.wrap n = n := by
  simp only [IntKind.wrap, IntKind.signed, IntKind.bits, Bool.false_and, Bool.false_eq_true, if_false]; omega
theorem wu8 {n : Int} (h0 : 0 ≤ n) (h1 : n < 256) : IntKind.u8.wrap n = n := by
  simp only [IntKind.wrap, IntKind.signed, IntKind.bits, Bool.false_and, Bool.false_eq_true, if_false]; omega
theorem ev_pos {α : Type} {c : Prop} [Decidable c] {f g : Nat → Option α} {r : α} (hc : c) (h : Ev f r) : Ev (fun k => if c then f k else g k) r := by
  simp only [if_pos hc]; exact h
theorem ev_neg {α : Type} {c : Prop} [Decidable c] {f g : Nat → Option α} {r : α} (hc : ¬ c) (h : Ev g r) : Ev (fun k => if c then f k else g k) r := by
  simp only [if_neg hc]; exact h
theorem ev_eq {α : Type} {f : Nat → Option α} {r : α} (h : ∀ k, f k = some r) : Ev f r := ⟨0, fun k _ => h k⟩
theorem ev_bind {α β : Type} {o : Option α} {f : Nat → α → Option β} {a : α} {r : β} (h : o = some a) (k : Ev (fun n => f n a) r) : Ev (fun n => o.bind (f n)) r := by
  subst h; exact k
theorem rd_at {xs : List Int} {i : Nat} (h : i < xs.length) : rd xs (i : Int) = xs[i] := by
  simp [rd, List.getElem?_eq_getElem h]
theorem byte_at {xs : List Int} (hb : Bytes xs) {i : Nat} (h : i < xs.length) : 0 ≤ xs[i] ∧ xs[i] ≤ 255 := hb _ (List.getElem_mem h)
theorem byte_of_wf {a : Int} (h : (Lit.int .u8 a).wf = true) : 0 ≤ a ∧ a ≤ 255 := by
  have := h
  simp [Lit.wf, IntKind.min, IntKind.max, IntKind.signed, IntKind.bits] at this
  exact this
theorem i64_of_wf {a : Int} (h : (Lit.int .i64 a).wf = true) : -9223372036854775808 ≤ a ∧ a ≤ 9223372036854775807 := by
  have := h
  simp [Lit.wf, IntKind.min, IntKind.max, IntKind.signed, IntKind.bits] at this
  exact this
theorem u64_of_wf {a : Int} (h : (Lit.int .u64 a).wf = true) : 0 ≤ a ∧ a ≤ 18446744073709551615 := by
  have := h
  simp [Lit.wf, IntKind.min, IntKind.max, IntKind.signed, IntKind.bits] at this
  exact this
theorem u32_of_wf {a : Int} (h : (Lit.int .u32 a).wf = true) : 0 ≤ a ∧ a ≤ 4294967295 := by
  have := h
  simp [Lit.wf, IntKind.min, IntKind.max, IntKind.signed, IntKind.bits] at this
  exact this
theorem u16_of_wf {a : Int} (h : (Lit.int .u16 a).wf = true) : 0 ≤ a ∧ a ≤ 65535 := by
  have := h
  simp [Lit.wf, IntKind.min, IntKind.max, IntKind.signed, IntKind.bits] at this
  exact this
theorem bytes_of_wf {l : List Int} (h : ∀ x ∈ l, (Lit.int .u8 x).wf = true) : Bytes l := fun x hx => byte_of_wf (h x hx)
/-! octet.Get: the number at a place, or none. -/
def fits (l : List Int) (at_ w : Int) : Prop := 0 ≤ w ∧ w ≤ 8 ∧ 0 ≤ at_ ∧ at_ + w ≤ (l.length : Int)
instance (l : List Int) (a w : Int) : Decidable (fits l a w) := by unfold fits; infer_instance
def slice_ (l : List Int) (at_ w : Int) : List Int := (l.drop at_.toNat).take w.toNat
def get (l : List Int) (at_ w : Int) : Int × Bool := if fits l at_ w then (num (slice_ l at_ w), true) else (0, false)
theorem slice_length {l : List Int} {a w : Int} (h : fits l a w) : (slice_ l a w).length = w.toNat := by
  unfold fits at h; unfold slice_; rw [List.length_take, List.length_drop]; omega
theorem slice_bytes {l : List Int} (hb : Bytes l) (a w : Int) : Bytes (slice_ l a w) := (hb.drop _).take _
theorem p256 {i : Nat} (h : i ≤ 8) : (256 : Int) ^ i ≤ 18446744073709551616 := by
  rcases i with _ | _ | _ | _ | _ | _ | _ | _ | _ | i <;> first | decide | (exfalso; omega)
theorem p256' {i : Nat} (h : i ≤ 7) : (256 : Int) ^ i ≤ 72057594037927936 := by
  rcases i with _ | _ | _ | _ | _ | _ | _ | _ | i <;> first | decide | (exfalso; omega)
theorem num_lt {l : List Int} (hb : Bytes l) (h : l.length ≤ 7) : 0 ≤ num l ∧ num l < 72057594037927936 := by
  have h1 := num_range hb; have h2 := p256' h; exact ⟨h1.1, Int.lt_of_lt_of_le h1.2 h2⟩
theorem num_lt8 {l : List Int} (hb : Bytes l) (h : l.length ≤ 8) : 0 ≤ num l ∧ num l < 18446744073709551616 := by
  have h1 := num_range hb; have h2 := p256 h; exact ⟨h1.1, Int.lt_of_lt_of_le h1.2 h2⟩
theorem or_byte {n b : Int} (h0 : 0 ≤ n) (h1 : n < 72057594037927936) (hb : 0 ≤ b ∧ b ≤ 255) : Go.bits .or .u64 (IntKind.u64.wrap (n * 256)) (IntKind.u64.wrap b) = n * 256 + b := by
  rw [wu64 (n := n * 256) (by omega) (by omega), wu64 (n := b) (by omega) (by omega)]
  refine bits_join .u64 64 (by decide) (fun m h2 h3 => wu64 h2 (by omega)) 8 _ _ (by omega) (by omega) (by omega) hb.1 (by omega) (by omega)
theorem take_snoc {l : List Int} {a i : Nat} (h : a + i < l.length) : (l.drop a).take (i + 1) = (l.drop a).take i ++ [l[a + i]] := by
  rw [List.take_add_one]
  congr 1
  rw [List.getElem?_drop, List.getElem?_eq_getElem h]; rfl
theorem get_l0 {l : List Int} (hb : Bytes l) (hl : l.length ≤ 140737488355200) {a w : Nat} (hw : w ≤ 8) (hf : a + w ≤ l.length) : ∀ d i : Nat, w = i + d →
    Ev (fun k => octet_Get.l0 k l (a : Int) (num ((l.drop a).take i)) (w : Int) (i : Int)) (num ((l.drop a).take w), true) := by
  intro d
  induction d with
  | zero =>
    intro i he
    have e : i = w := by omega
    subst e
    refine Ev.step (f := fun _ => _) (fun k => ?_) (Ev.now _)
    simp only [octet_Get.l0]; rw [if_neg (by omega)]
  | succ d ih =>
    intro i he
    have hlt : a + i < l.length := by omega
    have hbt := byte_at hb hlt
    have hn := num_lt (l := (l.drop a).take i) ((hb.drop _).take _) (by rw [List.length_take]; omega)
    refine Ev.step (f := fun k => octet_Get.l0 k l (a : Int) (num ((l.drop a).take (i + 1))) (w : Int) ((i + 1 : Nat) : Int)) (fun k => ?_) (ih (i + 1) (by omega))
    simp only [octet_Get.l0]
    rw [if_pos (by omega), w64 (n := (a : Int) + (i : Int)) (by omega) (by omega), if_pos (by omega), if_pos (by omega), w64 (n := (i : Int) + 1) (by omega) (by omega)]
    rw [show (a : Int) + (i : Int) = ((a + i : Nat) : Int) by omega, rd_at hlt, or_byte hn.1 hn.2 hbt, take_snoc hlt, num_snoc]; rfl
theorem get_ev {l : List Int} (hb : Bytes l) (hl : l.length ≤ 140737488355200) {a w : Int} (ha : -9223372036854775808 ≤ a ∧ a ≤ 9223372036854775807) (hw : -9223372036854775808 ≤ w ∧ w ≤ 9223372036854775807) :
    Ev (fun k => octet_Get.f k l a w) (get l a w) := by
  have none_ : ∀ k x0 x1 x2, octet_Get.j0 (k + 1) x0 x1 x2 true = some (0, false) := fun k x0 x1 x2 => by simp only [octet_Get.j0]; rw [if_pos trivial]
  have bad : ∀ {a' w' : Int}, Ev (fun k => octet_Get.j0 k l a' w' true) (0, false) := Ev.step (f := fun _ => _) (fun k => none_ k _ _ _) (Ev.now _)
  unfold octet_Get.f get
  by_cases h1 : w < 0
  · rw [if_neg (by unfold fits; omega)]; exact ev_pos h1 bad
  refine ev_neg h1 ?_
  by_cases h2 : w > 8
  · rw [if_neg (by unfold fits; omega)]; exact ev_pos h2 bad
  refine ev_neg h2 ?_
  by_cases h3 : a < 0
  · rw [if_neg (by unfold fits; omega)]; exact ev_pos h3 bad
  refine ev_neg h3 ?_
  by_cases h4 : a > (l.length : Int)
  · rw [if_neg (by unfold fits; omega)]; exact ev_pos h4 bad
  refine ev_neg h4 ?_
  rw [w64 (n := (l.length : Int) - a) (by omega) (by omega)]
  by_cases h5 : w > (l.length : Int) - a
  · rw [if_neg (by unfold fits; omega), decide_eq_true h5]; exact bad
  rw [if_pos (by unfold fits; omega), decide_eq_false h5]
  obtain ⟨an, rfl⟩ := Int.eq_ofNat_of_zero_le (show 0 ≤ a by omega)
  obtain ⟨wn, rfl⟩ := Int.eq_ofNat_of_zero_le (show 0 ≤ w by omega)
  have h := get_l0 hb hl (a := an) (w := wn) (by omega) (by omega) wn 0 (by omega)
  refine Ev.step (f := fun k => octet_Get.l0 k l (an : Int) 0 (wn : Int) 0) (fun k => ?_) ?_
  · simp only [octet_Get.j0]; rw [if_neg (by decide)]
  · exact h
theorem wraps63 (n : Int) (h0 : 0 ≤ n) (h1 : n < 2 ^ 63) : IntKind.i64.wrap n = n := by rw [IntKind.wrap_i64]; omega
/-- The number at a place. -/
def at_ (l : List Int) (i w : Nat) : Int := num ((l.drop i).take w)
theorem at_range {l : List Int} (hb : Bytes l) (i w : Nat) : 0 ≤ at_ l i w ∧ at_ l i w < 256 ^ w := by
  unfold at_
  have h := num_range (l := (l.drop i).take w) ((hb.drop _).take _)
  have hl : ((l.drop i).take w).length ≤ w := by rw [List.length_take]; omega
  refine ⟨h.1, Int.lt_of_lt_of_le h.2 ?_⟩
  generalize ((l.drop i).take w).length = m at hl
  obtain ⟨d, rfl⟩ : ∃ d, w = m + d := ⟨w - m, by omega⟩
  rw [Int.pow_add]
  have h1 := pow_pos m
  have h2 := pow_pos d
  have : (256 : Int) ^ m * 1 ≤ 256 ^ m * 256 ^ d := Int.mul_le_mul_of_nonneg_left (by omega) (by omega)
  omega
theorem take_add (l : List Int) (i w : Nat) : l.take (i + w) = l.take i ++ (l.drop i).take w := by
  rw [List.take_add]
theorem be_at {l : List Int} (hb : Bytes l) {i w : Nat} (h : i + w ≤ l.length) : be (at_ l i w) w = (l.drop i).take w := by
  have h1 := num_eq_be (l := (l.drop i).take w) ((hb.drop _).take _)
  rw [show ((l.drop i).take w).length = w by rw [List.length_take, List.length_drop]; omega] at h1
  exact h1
theorem one_bt {s : ByteArray} {i : Nat} (h : i < s.size) : at_ (bytesOf s) i 1 = bt s (i : Int) := by
  have hb := MBytes.range s
  have hl := bytesOf_length s
  rw [← rd_bytesOf]
  generalize bytesOf s = l at *
  unfold at_
  have : (l.drop i).take 1 = [l[i]] := by
    rw [List.drop_eq_getElem_cons (show i < l.length by omega)]; rfl
  rw [this]
  simp [num, rd, List.getElem?_eq_getElem (show i < l.length by omega)]
theorem two_bt {s : ByteArray} {i : Nat} (h : i + 1 < s.size) : at_ (bytesOf s) i 2 = bt s (i : Int) * 256 + bt s ((i + 1 : Nat) : Int) := by
  rw [← one_bt (s := s) (i := i) (by omega), ← one_bt (s := s) (i := i + 1) (by omega)]
  have hl := bytesOf_length s
  generalize bytesOf s = l at *
  unfold at_
  rw [show (l.drop i).take 2 = [l[i], l[i + 1]] by rw [List.drop_eq_getElem_cons (show i < l.length by omega), List.drop_eq_getElem_cons (show i + 1 < l.length by omega)]; rfl,
    show (l.drop i).take 1 = [l[i]] by rw [List.drop_eq_getElem_cons (show i < l.length by omega)]; rfl, show (l.drop (i + 1)).take 1 = [l[i + 1]] by rw [List.drop_eq_getElem_cons (show i + 1 < l.length by omega)]; rfl]
  simp only [num, List.foldl]
  omega
theorem at_app {p q : List Int} {i : Nat} (v : Int) (w : Nat) (hp : p.length = i) : at_ (p ++ (be v w ++ q)) i w = v % 256 ^ w := by
  unfold at_
  rw [List.drop_left' hp, List.take_left' (be_length _ _), num_be]
theorem be_one {n : Int} (h : 0 ≤ n ∧ n ≤ 255) : be n 1 = [n] := by
  simp only [be, Int.pow_zero, Int.ediv_one]; rw [show n % 256 = n by omega]
/-! The reference's Get. -/
theorem rget_l0 {l : List Int} (hb : Bytes l) (hl : l.length ≤ 140737488355200) {a w : Nat} (hw : w ≤ 8) (hf : a + w ≤ l.length) : ∀ d i : Nat, w = i + d →
    Ev (fun k => crosswayref01_Get.l0 k l (a : Int) (w : Int) (num ((l.drop a).take i)) (((a + i : Nat) : Int))) (num ((l.drop a).take w), true) := by
  intro d
  induction d with
  | zero =>
    intro i he
    have e : i = w := by omega
    subst e
    refine Ev.step (f := fun _ => _) (fun k => ?_) (Ev.now _)
    simp only [crosswayref01_Get.l0]; rw [w64 (n := (a : Int) + (i : Int)) (by omega) (by omega), if_neg (by omega)]
  | succ d ih =>
    intro i he
    have hlt : a + i < l.length := by omega
    have hbt := byte_at hb hlt
    have hn := num_lt (l := (l.drop a).take i) ((hb.drop _).take _) (by rw [List.length_take]; omega)
    refine Ev.step (f := fun k => crosswayref01_Get.l0 k l (a : Int) (w : Int) (num ((l.drop a).take (i + 1))) ((a + (i + 1) : Nat) : Int)) (fun k => ?_) (ih (i + 1) (by omega))
    simp only [crosswayref01_Get.l0]
    rw [w64 (n := (a : Int) + (w : Int)) (by omega) (by omega), if_pos (by omega), if_pos (by omega), if_pos (by omega), w64 (n := ((a + i : Nat) : Int) + 1) (by omega) (by omega)]
    rw [rd_at hlt, wu64 (n := _ * 256) (by omega) (by omega), wu64 (n := l[a + i]) (by omega) (by omega), wu64 (by omega) (by omega), take_snoc hlt, num_snoc]; rfl
theorem rget_ev {l : List Int} (hb : Bytes l) (hl : l.length ≤ 140737488355200) {a w : Int} (ha : -9223372036854775808 ≤ a ∧ a ≤ 9223372036854775807) (hw : -9223372036854775808 ≤ w ∧ w ≤ 9223372036854775807) :
    Ev (fun k => crosswayref01_Get.f k l a w) (get l a w) := by
  have none_ : ∀ k x0 x1 x2, crosswayref01_Get.j0 (k + 1) x0 x1 x2 true = some (0, false) := fun k x0 x1 x2 => by simp only [crosswayref01_Get.j0]; rw [if_pos trivial]
  have bad : ∀ {a' w' : Int}, Ev (fun k => crosswayref01_Get.j0 k l a' w' true) (0, false) := Ev.step (f := fun _ => _) (fun k => none_ k _ _ _) (Ev.now _)
  unfold crosswayref01_Get.f get
  by_cases h1 : w < 0
  · rw [if_neg (by unfold fits; omega)]; exact ev_pos h1 bad
  refine ev_neg h1 ?_
  by_cases h2 : w > 8
  · rw [if_neg (by unfold fits; omega)]; exact ev_pos h2 bad
  refine ev_neg h2 ?_
  by_cases h3 : a < 0
  · rw [if_neg (by unfold fits; omega)]; exact ev_pos h3 bad
  refine ev_neg h3 ?_
  by_cases h4 : a > (l.length : Int)
  · rw [if_neg (by unfold fits; omega)]; exact ev_pos h4 bad
  refine ev_neg h4 ?_
  rw [w64 (n := (l.length : Int) - a) (by omega) (by omega)]
  by_cases h5 : w > (l.length : Int) - a
  · rw [if_neg (by unfold fits; omega), decide_eq_true h5]; exact bad
  rw [if_pos (by unfold fits; omega), decide_eq_false h5]
  obtain ⟨an, rfl⟩ := Int.eq_ofNat_of_zero_le (show 0 ≤ a by omega)
  obtain ⟨wn, rfl⟩ := Int.eq_ofNat_of_zero_le (show 0 ≤ w by omega)
  have h := rget_l0 hb hl (a := an) (w := wn) (by omega) (by omega) wn 0 (by omega)
  refine Ev.step (f := fun k => crosswayref01_Get.l0 k l (an : Int) (wn : Int) 0 (an : Int)) (fun k => ?_) ?_
  · simp only [crosswayref01_Get.j0]; rw [if_neg (by decide)]
  · exact h
/-! The reference's Put. -/
theorem rput_l1 (n0 n : Int) (xs : List Int) (r : List Int) (hn0 : 0 ≤ n0) (hn1 : n0 < 18446744073709551616) (hlen : xs.length < 140737488355328) (w : Nat) (hw : w < 8) : ∀ (d i : Nat), w = i + d →
    Ev (fun k => crosswayref01_Put.l0 k n0 (xs ++ [n0 / 256 ^ w % 256]) ((w : Int) - 1)) r → Ev (fun k => crosswayref01_Put.l1 k n0 xs (w : Int) (n0 / 256 ^ i) (i : Int)) r := by
  intro d
  induction d with
  | zero =>
    intro i he h
    have e : i = w := by omega
    subst e
    refine Ev.step (f := fun k => _) (fun k => ?_) h
    have hq : 0 ≤ n0 / 256 ^ i := Int.ediv_nonneg hn0 (Int.le_of_lt (pow_pos i))
    simp only [crosswayref01_Put.l1]
    rw [if_neg (by omega), if_pos hlen, w64 (n := (i : Int) - 1) (by omega) (by omega), Int.tmod_eq_emod_of_nonneg hq]
    generalize n0 / 256 ^ i = q
    rw [show q % 256 % 256 = q % 256 by omega]
  | succ d ih =>
    intro i he h
    have hq : 0 ≤ n0 / 256 ^ i := Int.ediv_nonneg hn0 (Int.le_of_lt (pow_pos i))
    have hq2 : n0 / 256 ^ i ≤ n0 := Int.ediv_le_self _ hn0
    refine Ev.step (f := fun k => crosswayref01_Put.l1 k n0 xs (w : Int) (n0 / 256 ^ (i + 1)) ((i + 1 : Nat) : Int)) (fun k => ?_) (ih (i + 1) (by omega) h)
    simp only [crosswayref01_Put.l1]
    rw [if_pos (by omega), w64 (n := (i : Int) + 1) (by omega) (by omega), Int.tdiv_eq_ediv_of_nonneg hq, wu64 (n := n0 / 256 ^ i / 256) (by omega) (by omega), div_div]; rfl
theorem rput_l0 (n0 : Int) (hn0 : 0 ≤ n0) (hn1 : n0 < 18446744073709551616) : ∀ (w : Nat) (xs : List Int), w ≤ 8 → xs.length ≤ 140737488355300 + (8 - w) →
    Ev (fun k => crosswayref01_Put.l0 k n0 xs ((w : Int) - 1)) (xs ++ be n0 w) := by
  intro w
  induction w with
  | zero =>
    intro xs h hl
    refine Ev.step (f := fun _ => _) (fun k => ?_) (Ev.now _)
    simp only [crosswayref01_Put.l0]; rw [if_neg (by omega)]; simp [be]
  | succ w ih =>
    intro xs h hl
    refine Ev.step (f := fun k => crosswayref01_Put.l1 k n0 xs (w : Int) (n0 / 256 ^ 0) ((0 : Nat) : Int)) (fun k => ?_) (rput_l1 n0 n0 xs _ hn0 hn1 (by omega) w (by omega) w 0 (by omega) ?_)
    · simp only [crosswayref01_Put.l0]
      rw [if_pos (by omega), Int.pow_zero, Int.ediv_one, show ((w + 1 : Nat) : Int) - 1 = (w : Int) by omega]; rfl
    · have h2 := ih (xs ++ [n0 / 256 ^ w % 256]) (by omega) (by rw [List.length_append]; simp; omega)
      have e : xs ++ be n0 (w + 1) = xs ++ [n0 / 256 ^ w % 256] ++ be n0 w := by simp [be]
      rw [e]; exact h2
theorem wid_eq' (w : Int) : mn (mx w 0) 8 = (octet_Put.wid w : Int) := octet_Put.wid_eq w
theorem rput_ev {l : List Int} (hl : l.length ≤ 140737488355200) {w n : Int} (hn : 0 ≤ n ∧ n ≤ 18446744073709551615) : Ev (fun k => crosswayref01_Put.f k l w n) (l ++ be n (octet_Put.wid w)) := by
  unfold crosswayref01_Put.f
  refine ev_pos (by simp; omega) ?_
  rw [List.nil_append, octet_Put.wid_eq]
  exact rput_l0 n hn.1 (by omega) _ _ (octet_Put.wid_le w) (by omega)
theorem awake_ev : Ev (fun k => crosswaylaw05_awake.f k) true := Ev.of (fun k => crosswaylaw05_awake.mono k) (k := 100) (by decide +kernel)
/-- May a frame be? -/
def frB (a b c : Int) : Bool := decide (a < 281474976710656 ∧ b < 281474976710656 ∧ 1536 ≤ c ∧ c < 65536)
theorem isFrame_eq (a b c : Int) (s : ByteArray) : ether_isFrame.f a b c s = some (frB a b c) := by
  unfold ether_isFrame.f frB
  by_cases h1 : a < 281474976710656
  · by_cases h2 : b < 281474976710656
    · by_cases h3 : c ≥ 1536
      · rw [if_pos h1, if_pos h2, if_pos h3]; congr 1; apply decide_eq_decide.2; omega
      · rw [if_pos h1, if_pos h2, if_neg h3]; congr 1; symm; apply decide_eq_false; omega
    · rw [if_pos h1, if_neg h2]; congr 1; symm; apply decide_eq_false; omega
  · rw [if_neg h1]; congr 1; symm; apply decide_eq_false; omega
/-- A frame's bytes, ahead of what fills it up. -/
def fr (a b c : Int) (s : ByteArray) : List Int := be a 6 ++ be b 6 ++ be c 2 ++ bytesOf s
def pad (l : List Int) : List Int := l ++ List.replicate (60 - l.length) 0
theorem fr_length (a b c : Int) (s : ByteArray) : (fr a b c s).length = 14 + s.size := by unfold fr; simp only [List.length_append, be_length, bytesOf_length]
theorem fr_bytes (a b c : Int) (s : ByteArray) : Bytes (fr a b c s) := Bytes.append (Bytes.append (Bytes.append (be_bytes _ _) (be_bytes _ _)) (be_bytes _ _)) (MBytes.range s)
theorem zeros_bytes (n : Nat) : Bytes (List.replicate n (0 : Int)) := by
  intro x hx
  have := List.eq_of_mem_replicate hx
  omega
theorem pad_bytes {l : List Int} (h : Bytes l) : Bytes (pad l) := h.append (zeros_bytes _)
theorem pad_long {l : List Int} (h : 60 ≤ l.length) : pad l = l := by unfold pad; rw [show 60 - l.length = 0 by omega]; simp
theorem pad_length (l : List Int) : (pad l).length = max l.length 60 := by unfold pad; rw [List.length_append, List.length_replicate]; omega
theorem pad_snoc {l : List Int} (h : l.length < 60) : pad (l ++ [0]) = pad l := by
  unfold pad
  rw [List.length_append, List.length_singleton, List.append_assoc, show 60 - l.length = (60 - (l.length + 1)) + 1 by omega, List.replicate_succ]; rfl
theorem pad_ev : ∀ (d : Nat) (l : List Int), l.length + d = 60 ∨ (60 ≤ l.length ∧ d = 0) → Ev (fun k => ether_Lay.l0 k l) (strOfNums (pad l), 0) := by
  intro d
  induction d with
  | zero =>
    intro l h
    refine Ev.step (fun k => by simp only [ether_Lay.l0]; rfl) ?_
    rw [pad_long (by omega)]
    exact ev_neg (by omega) (ev_eq fun _ => rfl)
  | succ d ih =>
    intro l h
    refine Ev.step (fun k => by simp only [ether_Lay.l0]; rfl) ?_
    have h1 := ih (l ++ [0]) (by rw [List.length_append, List.length_singleton]; omega)
    rw [pad_snoc (by omega)] at h1
    exact ev_pos (by omega) (ev_pos (by omega) h1)
theorem rpad_ev : ∀ (d : Nat) (l : List Int), l.length + d = 60 ∨ (60 ≤ l.length ∧ d = 0) → Ev (fun k => crosswayref05_Lay.l0 k l) (strOfNums (pad l), 0) := by
  intro d
  induction d with
  | zero =>
    intro l h
    refine Ev.step (fun k => by simp only [crosswayref05_Lay.l0]; rfl) ?_
    rw [pad_long (by omega)]
    exact ev_neg (by omega) (ev_eq fun _ => rfl)
  | succ d ih =>
    intro l h
    refine Ev.step (fun k => by simp only [crosswayref05_Lay.l0]; rfl) ?_
    have h1 := ih (l ++ [0]) (by rw [List.length_append, List.length_singleton]; omega)
    rw [pad_snoc (by omega)] at h1
    exact ev_pos (by omega) (ev_pos (by omega) h1)
def layR (a b c : Int) (s : ByteArray) : ByteArray × Int := if frB a b c = true then (if (s.size : Int) > 1500 then (⟨#[]⟩, 42) else (strOfNums (pad (fr a b c s)), 0)) else (⟨#[]⟩, 40)
theorem put_eq (l : List Int) (w n : Int) (m : Nat) (hk : octet_Put.wid w = m) (hl : l.length ≤ 100) : octet_Put.f l w n = some (l ++ be n m) := by
  unfold octet_Put.f; rw [if_pos (by omega), hk]
theorem lay_ev (a b c : Int) (s : ByteArray) : Ev (fun k => ether_Lay.f k a b c s) (layR a b c s) := by
  unfold ether_Lay.f layR
  refine ev_bind (isFrame_eq a b c s) ?_
  cases hf : frB a b c
  · exact ev_neg (by decide) (ev_eq fun _ => rfl)
  have hc := of_decide_eq_true (show decide (a < 281474976710656 ∧ b < 281474976710656 ∧ 1536 ≤ c ∧ c < 65536) = true from hf)
  rw [if_pos rfl]
  refine ev_pos rfl ?_
  by_cases hl : (s.size : Int) > 1500
  · rw [if_pos hl]; exact ev_pos hl (ev_eq fun _ => rfl)
  rw [if_neg hl]
  refine ev_neg hl (ev_bind (put_eq [] 6 a 6 rfl (by simp)) (ev_bind (put_eq _ 6 b 6 rfl (by simp [be_length])) (ev_bind (put_eq _ 2 _ 2 rfl (by simp [be_length])) (ev_pos (by simp only [List.length_append, List.length_nil, be_length]; omega) ?_))))
  rw [wu64 (n := c) (by omega) (by omega), List.nil_append]
  have hlen := fr_length a b c s
  exact pad_ev (60 - (14 + s.size)) (fr a b c s) (by omega)
theorem rlay_ev (a b c : Int) (s : ByteArray) (ha : 0 ≤ a ∧ a ≤ 18446744073709551615) (hb : 0 ≤ b ∧ b ≤ 18446744073709551615) : Ev (fun k => crosswayref05_Lay.f k a b c s) (layR a b c s) := by
  unfold crosswayref05_Lay.f crosswayref05_mac.f layR
  have bad : Ev (fun k => crosswayref05_Lay.j0 k true a b c s) (⟨#[]⟩, 40) := by
    refine Ev.step (fun k => by simp only [crosswayref05_Lay.j0]; rfl) ?_
    exact ev_pos (by first | exact True.intro | exact rfl) (ev_eq fun _ => rfl)
  refine ev_bind rfl (ev_bind rfl ?_)
  cases hf : frB a b c
  · have hc := of_decide_eq_false (show decide (a < 281474976710656 ∧ b < 281474976710656 ∧ 1536 ≤ c ∧ c < 65536) = false from hf)
    rw [if_neg (by decide)]
    by_cases h1 : a < 281474976710656
    · refine ev_pos (decide_eq_true h1) ?_
      by_cases h2 : b < 281474976710656
      · refine ev_pos (decide_eq_true h2) ?_
        by_cases h3 : c < 1536
        · exact ev_pos h3 bad
        · refine ev_neg h3 ?_
          rw [decide_eq_true (show c > 65535 by omega)]; exact bad
      · exact ev_neg (by simpa using h2) bad
    · exact ev_neg (by simpa using h1) bad
  have hc := of_decide_eq_true (show decide (a < 281474976710656 ∧ b < 281474976710656 ∧ 1536 ≤ c ∧ c < 65536) = true from hf)
  rw [if_pos rfl]
  refine ev_pos (decide_eq_true hc.1) (ev_pos (decide_eq_true hc.2.1) (ev_neg (by omega) ?_))
  rw [decide_eq_false (show ¬ c > 65535 by omega)]
  refine Ev.step (fun k => by simp only [crosswayref05_Lay.j0]; rfl) ?_
  refine ev_neg (by decide) ?_
  by_cases hl : (s.size : Int) > 1500
  · rw [if_pos hl]; exact ev_pos hl (ev_eq fun _ => rfl)
  rw [if_neg hl]
  have p1 := rput_ev (l := []) (w := 6) (n := a) (by simp) ha
  rw [show octet_Put.wid 6 = 6 from rfl, List.nil_append] at p1
  have p2 := rput_ev (l := be a 6) (w := 6) (n := b) (by rw [be_length]; omega) hb
  rw [show octet_Put.wid 6 = 6 from rfl] at p2
  have p3 := rput_ev (l := be a 6 ++ be b 6) (w := 2) (n := c) (by rw [List.length_append, be_length, be_length]; omega) (by omega)
  rw [show octet_Put.wid 2 = 2 from rfl] at p3
  have hlen := fr_length a b c s
  rw [wu64 (n := c) (by omega) (by omega)]
  refine ev_neg hl (Ev.bind p1 (Ev.bind p2 (Ev.bind p3 (ev_pos (by simp only [List.length_append, be_length]; omega) (rpad_ev (60 - (14 + s.size)) (fr a b c s) (by omega))))))
/-! Frames taken up. -/
theorem num_ev {l : List Int} (hb : Bytes l) {w : Nat} (hw : w ≤ 8) (hl : w ≤ l.length) (hl2 : l.length ≤ 140737488355200) : Ev (fun k => ether_Take.num k l (w : Int)) (num (l.take w)) := by
  unfold ether_Take.num
  have h := get_ev (l := l) (a := 0) (w := (w : Int)) hb hl2 (by omega) (by omega)
  have e : get l 0 (w : Int) = (num (l.take w), true) := by
    unfold get
    rw [if_pos (by unfold fits; omega)]
    unfold slice_
    simp
  rw [e] at h
  exact Ev.bind h (ev_eq fun _ => if_pos rfl)
def takeR (s : ByteArray) : Int × Int × Int × ByteArray × Int :=
  if (s.size : Int) < 14 then ether_Take.no 41 else if (s.size : Int) > 1514 then ether_Take.no 42 else
  if at_ (bytesOf s) 12 2 < 1536 then ether_Take.no 40 else (at_ (bytesOf s) 0 6, at_ (bytesOf s) 6 6, at_ (bytesOf s) 12 2, s.extract 14 s.size, 0)
theorem at_ranges (s : ByteArray) : (0 ≤ at_ (bytesOf s) 0 6 ∧ at_ (bytesOf s) 0 6 < 281474976710656) ∧ (0 ≤ at_ (bytesOf s) 6 6 ∧ at_ (bytesOf s) 6 6 < 281474976710656) ∧ (0 ≤ at_ (bytesOf s) 12 2 ∧ at_ (bytesOf s) 12 2 < 65536) := by
  have h1 := at_range (MBytes.range s) 0 6; have h2 := at_range (MBytes.range s) 6 6; have h3 := at_range (MBytes.range s) 12 2
  rw [show (256 : Int) ^ 6 = 281474976710656 by decide] at h1 h2
  rw [show (256 : Int) ^ 2 = 65536 by decide] at h3
  exact ⟨h1, h2, h3⟩
theorem take_ev (s : ByteArray) : Ev (fun k => ether_Take.f k s) (takeR s) := by
  unfold ether_Take.f takeR
  by_cases h1 : (s.size : Int) < 14
  · rw [if_pos h1]; exact ev_pos h1 (ev_eq fun _ => rfl)
  rw [if_neg h1]
  by_cases h2 : (s.size : Int) > 1514
  · rw [if_pos h2]; exact ev_neg h1 (ev_pos h2 (ev_eq fun _ => rfl))
  rw [if_neg h2]
  have hb := MBytes.range s
  have hl := bytesOf_length s
  have hx : bytesOf (s.extract 0 14) = (bytesOf s).take 14 := by rw [MBytes.extract]; simp
  have nev : ∀ (i w : Nat), w ≤ 8 → i + w ≤ 14 → Ev (fun k => ether_Take.num k (((bytesOf s).take 14).drop i) (w : Int)) (at_ (bytesOf s) i w) := by
    intro i w hw hi
    have h := num_ev (l := ((bytesOf s).take 14).drop i) (Bytes.drop (Bytes.take hb _) _) hw (by rw [List.length_drop, List.length_take]; omega) (by rw [List.length_drop, List.length_take]; omega)
    have e : (((bytesOf s).take 14).drop i).take w = ((bytesOf s).drop i).take w := by
      rw [List.drop_take, List.take_take, Nat.min_eq_left (by omega)]
    rw [e] at h
    exact h
  have n0 := nev 0 6 (by decide) (by decide)
  rw [List.drop_zero] at n0
  obtain ⟨r1, r2, r3⟩ := at_ranges s
  rw [hx]
  refine ev_neg h1 (ev_neg h2 (Ev.bind n0 (Ev.bind (nev 6 6 (by decide) (by decide)) (Ev.bind (nev 12 2 (by decide) (by decide)) (ev_neg (by omega) (ev_bind (isFrame_eq _ _ _ _) (ev_eq fun _ => ?_)))))))
  by_cases h3 : at_ (bytesOf s) 12 2 < 1536
  · rw [if_pos h3, if_neg (by rw [show frB (at_ (bytesOf s) 0 6) (at_ (bytesOf s) 6 6) (at_ (bytesOf s) 12 2) = false from decide_eq_false (by omega)]; decide)]
  · rw [if_neg h3, if_pos (show frB (at_ (bytesOf s) 0 6) (at_ (bytesOf s) 6 6) (at_ (bytesOf s) 12 2) = true from decide_eq_true (by omega))]
theorem rnum_ev {s : ByteArray} (hs : s.size ≤ 140737488355200) (i w : Nat) (hw : w ≤ 6) (h : i + w ≤ s.size) : Ev (fun k => crosswayref05_num.f k s (i : Int) (w : Int)) (at_ (bytesOf s) i w) := by
  unfold crosswayref05_num.f
  have hl := bytesOf_length s
  have h1 := rget_ev (l := bytesOf s) (a := (i : Int)) (w := (w : Int)) (MBytes.range s) (by omega) (by omega) (by omega)
  have e : get (bytesOf s) (i : Int) (w : Int) = (at_ (bytesOf s) i w, true) := by
    unfold get
    rw [if_pos (by unfold fits; omega)]
    rfl
  rw [e] at h1
  exact ev_pos (by omega) (Ev.bind h1 (ev_eq fun _ => rfl))
theorem rtake_ev (s : ByteArray) : Ev (fun k => crosswayref05_Take.f k s) (takeR s) := by
  unfold crosswayref05_Take.f takeR
  by_cases h1 : (s.size : Int) < 14
  · rw [if_pos h1]; exact ev_pos h1 (ev_eq fun _ => rfl)
  rw [if_neg h1]
  by_cases h2 : (s.size : Int) > 1514
  · rw [if_pos h2]; exact ev_neg h1 (ev_pos h2 (ev_eq fun _ => rfl))
  rw [if_neg h2]
  obtain ⟨r1, r2, r3⟩ := at_ranges s
  have N := fun i w a b => rnum_ev (s := s) (by omega) i w a b
  refine ev_neg h1 (ev_neg h2 (Ev.bind (N 12 2 (by decide) (by omega)) ?_))
  have ew : wrap64 (at_ (bytesOf s) 12 2) = at_ (bytesOf s) 12 2 := w64 (by omega) (by omega)
  rw [ew]
  by_cases h3 : at_ (bytesOf s) 12 2 < 1536
  · rw [if_pos h3]; exact ev_pos h3 (ev_eq fun _ => rfl)
  · rw [if_neg h3]
    exact ev_neg h3 (Ev.bind (N 0 6 (by decide) (by omega)) (Ev.bind (N 6 6 (by decide) (by omega)) (ev_pos (by omega) (ev_eq fun _ => rfl))))
end Go.Proofs.YthajbaheejdoaaaDoor.Pure
