/-
  Several texts in one. Conditions: those of each theorem.
-/
import Derived.Test.YtaoopneiglgnkaaDoorPBasex12
import Derived.Test.YtaoopneiglgnkaaDoorMTally
import Derived.Test.YtaoopneiglgnkaaDoorMBytes
import Derived.Laws.BitsLemmas
set_option linter.unusedVariables false
set_option linter.unusedSectionVars false
set_option linter.unusedSimpArgs false
namespace Go.Proofs.YtaoopneiglgnkaaDoor.Pure6
open Go.RowKit Go.Proofs.YtaoopneiglgnkaaDoor.PBase Go.Proofs.YtaoopneiglgnkaaDoorW.PrintWords Go.Proofs.YtaoopneiglgnkaaDoorW.PrintLast Go.Proofs.YtaoopneiglgnkaaDoorW.PrintMore Go.Proofs.YtaoopneiglgnkaaDoor.MTally Go.Proofs.YtaoopneiglgnkaaDoor.MBe
/-! Small steps for what printed functions come to. -/
theorem w64 {n : Int} (h0 : -9223372036854775808 ≤ n) (h1 : n ≤ 9223372036854775807) : wrap64 n = n := by unfold wrap64; omega
theorem wu64 {n : Int} (h0 : 0 ≤ n) (h1 : n < 18446744073709551616) : IntKind.u64.wrap n = n := by
  simp only [IntKind.wrap, IntKind.signed, IntKind.bits, Bool.false_and, Bool.false_eq_true, if_false]; omega
theorem wu64' (n : Int) : IntKind.u64.wrap n = n % 18446744073709551616 := by
  simp only [IntKind.wrap, IntKind.signed, IntKind.bits, Bool.false_and, Bool.false_eq_true, if_false]; rfl
theorem wu32 {n : Int} (h0 : 0 ≤ n) (h1 : n < 4294967296) : IntKind.u32.wrap n = n := by
  simp only [IntKind.wrap, IntKind.signed, IntKind.bits, Bool.false_and, Bool.false_eq_true, if_false]; omega
theorem wu16 {n : Int} (h0 : 0 ≤ n) (h1 : n < 65536) : IntKind.u16.wrap n = n := by
  simp only [IntKind.wrap, IntKind.signed, IntKind.bits, Bool.false_and, Bool.false_eq_true, if_false]; omega
theorem wu8 {n : Int} (h0 : 0 ≤ n) (h1 : n < 256) : IntKind.u8.wrap n = n := by
  simp only [IntKind.wrap, IntKind.signed, IntKind.bits, Bool.false_and, Bool.false_eq_true, if_false]; omega
theorem ev_pos {α : Type} {c : Prop} [Decidable c] {f g : Nat → Option α} {r : α} (hc : c) (h : Ev f r) : Ev (fun k => if c then f k else g k) r := by
  simp only [if_pos hc]; exact h
theorem ev_neg {α : Type} {c : Prop} [Decidable c] {f g : Nat → Option α} {r : α} (hc : ¬ c) (h : Ev g r) : Ev (fun k => if c then f k else g k) r := by
  simp only [if_neg hc]; exact h
theorem ev_eq {α : Type} {f : Nat → Option α} {r : α} (h : ∀ k, f k = some r) : Ev f r := ⟨0, fun k _ => h k⟩
theorem ev_bind {α β : Type} {o : Option α} {f : Nat → α → Option β} {a : α} {r : β} (h : o = some a) (k : Ev (fun n => f n a) r) : Ev (fun n => o.bind (f n)) r := by
  subst h; exact k
theorem rd_at {xs : List Int} {i : Nat} (h : i < xs.length) : rd xs (i : Int) = xs[i] := by
  simp [rd, List.getElem?_eq_getElem h]
theorem byte_at {xs : List Int} (hb : Bytes xs) {i : Nat} (h : i < xs.length) : 0 ≤ xs[i] ∧ xs[i] ≤ 255 := hb _ (List.getElem_mem h)
theorem byte_of_wf {a : Int} (h : (Lit.int .u8 a).wf = true) : 0 ≤ a ∧ a ≤ 255 := by
  have := h
  simp [Lit.wf, IntKind.min, IntKind.max, IntKind.signed, IntKind.bits] at this
  exact this
theorem i64_of_wf {a : Int} (h : (Lit.int .i64 a).wf = true) : -9223372036854775808 ≤ a ∧ a ≤ 9223372036854775807 := by
  have := h
  simp [Lit.wf, IntKind.min, IntKind.max, IntKind.signed, IntKind.bits] at this
  exact this
theorem u64_of_wf {a : Int} (h : (Lit.int .u64 a).wf = true) : 0 ≤ a ∧ a ≤ 18446744073709551615 := by
  have := h
  simp [Lit.wf, IntKind.min, IntKind.max, IntKind.signed, IntKind.bits] at this
  exact this
theorem u32_of_wf {a : Int} (h : (Lit.int .u32 a).wf = true) : 0 ≤ a ∧ a ≤ 4294967295 := by
  have := h
  simp [Lit.wf, IntKind.min, IntKind.max, IntKind.signed, IntKind.bits] at this
  exact this
theorem u16_of_wf {a : Int} (h : (Lit.int .u16 a).wf = true) : 0 ≤ a ∧ a ≤ 65535 := by
  have := h
  simp [Lit.wf, IntKind.min, IntKind.max, IntKind.signed, IntKind.bits] at this
  exact this
theorem bytes_of_wf {l : List Int} (h : ∀ x ∈ l, (Lit.int .u8 x).wf = true) : Bytes l := fun x hx => byte_of_wf (h x hx)
/-! octet.Get: the number at a place, or none. -/
def fits (l : List Int) (at_ w : Int) : Prop := 0 ≤ w ∧ w ≤ 8 ∧ 0 ≤ at_ ∧ at_ + w ≤ (l.length : Int)
instance (l : List Int) (a w : Int) : Decidable (fits l a w) := by unfold fits; infer_instance
def slice_ (l : List Int) (at_ w : Int) : List Int := (l.drop at_.toNat).take w.toNat
def get (l : List Int) (at_ w : Int) : Int × Bool := if fits l at_ w then (num (slice_ l at_ w), true) else (0, false)
theorem slice_length {l : List Int} {a w : Int} (h : fits l a w) : (slice_ l a w).length = w.toNat := by
  unfold fits at h; unfold slice_; rw [List.length_take, List.length_drop]; omega
theorem slice_bytes {l : List Int} (hb : Bytes l) (a w : Int) : Bytes (slice_ l a w) := (hb.drop _).take _
theorem p256 {i : Nat} (h : i ≤ 8) : (256 : Int) ^ i ≤ 18446744073709551616 := by
  rcases i with _ | _ | _ | _ | _ | _ | _ | _ | _ | i <;> first | decide | (exfalso; omega)
theorem p256' {i : Nat} (h : i ≤ 7) : (256 : Int) ^ i ≤ 72057594037927936 := by
  rcases i with _ | _ | _ | _ | _ | _ | _ | _ | i <;> first | decide | (exfalso; omega)
theorem num_lt {l : List Int} (hb : Bytes l) (h : l.length ≤ 7) : 0 ≤ num l ∧ num l < 72057594037927936 := by
  have h1 := num_range hb; have h2 := p256' h; exact ⟨h1.1, Int.lt_of_lt_of_le h1.2 h2⟩
theorem num_lt8 {l : List Int} (hb : Bytes l) (h : l.length ≤ 8) : 0 ≤ num l ∧ num l < 18446744073709551616 := by
  have h1 := num_range hb; have h2 := p256 h; exact ⟨h1.1, Int.lt_of_lt_of_le h1.2 h2⟩
theorem or_byte {n b : Int} (h0 : 0 ≤ n) (h1 : n < 72057594037927936) (hb : 0 ≤ b ∧ b ≤ 255) : Go.bits .or .u64 (IntKind.u64.wrap (n * 256)) (IntKind.u64.wrap b) = n * 256 + b := by
  rw [wu64 (n := n * 256) (by omega) (by omega), wu64 (n := b) (by omega) (by omega)]
  refine bits_join .u64 64 (by decide) (fun m h2 h3 => wu64 h2 (by omega)) 8 _ _ (by omega) (by omega) (by omega) hb.1 (by omega) (by omega)
theorem take_snoc {l : List Int} {a i : Nat} (h : a + i < l.length) : (l.drop a).take (i + 1) = (l.drop a).take i ++ [l[a + i]] := by
  rw [List.take_add_one]
  congr 1
  rw [List.getElem?_drop, List.getElem?_eq_getElem h]; rfl
theorem get_l0 {l : List Int} (hb : Bytes l) (hl : l.length ≤ 140737488355200) {a w : Nat} (hw : w ≤ 8) (hf : a + w ≤ l.length) : ∀ d i : Nat, w = i + d →
    Ev (fun k => octet_Get.l0 k l (a : Int) (num ((l.drop a).take i)) (w : Int) (i : Int)) (num ((l.drop a).take w), true) := by
  intro d
  induction d with
  | zero =>
    intro i he
    have e : i = w := by omega
    subst e
    refine Ev.step (f := fun _ => _) (fun k => ?_) (Ev.now _)
    simp only [octet_Get.l0]; rw [if_neg (by omega)]
  | succ d ih =>
    intro i he
    have hlt : a + i < l.length := by omega
    have hbt := byte_at hb hlt
    have hn := num_lt (l := (l.drop a).take i) ((hb.drop _).take _) (by rw [List.length_take]; omega)
    refine Ev.step (f := fun k => octet_Get.l0 k l (a : Int) (num ((l.drop a).take (i + 1))) (w : Int) ((i + 1 : Nat) : Int)) (fun k => ?_) (ih (i + 1) (by omega))
    simp only [octet_Get.l0]
    rw [if_pos (by omega), w64 (n := (a : Int) + (i : Int)) (by omega) (by omega), if_pos (by omega), if_pos (by omega), w64 (n := (i : Int) + 1) (by omega) (by omega)]
    rw [show (a : Int) + (i : Int) = ((a + i : Nat) : Int) by omega, rd_at hlt, or_byte hn.1 hn.2 hbt, take_snoc hlt, num_snoc]; rfl
theorem get_ev {l : List Int} (hb : Bytes l) (hl : l.length ≤ 140737488355200) {a w : Int} (ha : -9223372036854775808 ≤ a ∧ a ≤ 9223372036854775807) (hw : -9223372036854775808 ≤ w ∧ w ≤ 9223372036854775807) :
    Ev (fun k => octet_Get.f k l a w) (get l a w) := by
  have none_ : ∀ k x0 x1 x2, octet_Get.j0 (k + 1) x0 x1 x2 true = some (0, false) := fun k x0 x1 x2 => by simp only [octet_Get.j0]; rw [if_pos trivial]
  have bad : ∀ {a' w' : Int}, Ev (fun k => octet_Get.j0 k l a' w' true) (0, false) := Ev.step (f := fun _ => _) (fun k => none_ k _ _ _) (Ev.now _)
  unfold octet_Get.f get
  by_cases h1 : w < 0
  · rw [if_neg (by unfold fits; omega)]; exact ev_pos h1 bad
  refine ev_neg h1 ?_
  by_cases h2 : w > 8
  · rw [if_neg (by unfold fits; omega)]; exact ev_pos h2 bad
  refine ev_neg h2 ?_
  by_cases h3 : a < 0
  · rw [if_neg (by unfold fits; omega)]; exact ev_pos h3 bad
  refine ev_neg h3 ?_
  by_cases h4 : a > (l.length : Int)
  · rw [if_neg (by unfold fits; omega)]; exact ev_pos h4 bad
  refine ev_neg h4 ?_
  rw [w64 (n := (l.length : Int) - a) (by omega) (by omega)]
  by_cases h5 : w > (l.length : Int) - a
  · rw [if_neg (by unfold fits; omega), decide_eq_true h5]; exact bad
  rw [if_pos (by unfold fits; omega), decide_eq_false h5]
  obtain ⟨an, rfl⟩ := Int.eq_ofNat_of_zero_le (show 0 ≤ a by omega)
  obtain ⟨wn, rfl⟩ := Int.eq_ofNat_of_zero_le (show 0 ≤ w by omega)
  have h := get_l0 hb hl (a := an) (w := wn) (by omega) (by omega) wn 0 (by omega)
  refine Ev.step (f := fun k => octet_Get.l0 k l (an : Int) 0 (wn : Int) 0) (fun k => ?_) ?_
  · simp only [octet_Get.j0]; rw [if_neg (by decide)]
  · exact h
theorem wraps63 (n : Int) (h0 : 0 ≤ n) (h1 : n < 2 ^ 63) : IntKind.i64.wrap n = n := by rw [IntKind.wrap_i64]; omega
/-- A packet's first number. -/
theorem first_eq {cl fl : Int} (hc : 0 ≤ cl ∧ cl ≤ 255) (hf : 0 ≤ fl ∧ fl ≤ 1048575) : ip6_Lay.first cl fl = 1610612736 + cl * 1048576 + fl := by
  unfold ip6_Lay.first
  rw [bits_join .i64 63 (by decide) wraps63 28 1610612736 (cl * 1048576) (by omega) (by decide) (by omega) (by omega) (by omega) (by omega)]
  rw [bits_join .i64 63 (by decide) wraps63 20 (1610612736 + cl * 1048576) fl (by omega) (by omega) (by omega) (by omega) (by omega) (by omega)]
  rw [wu64 (by omega) (by omega)]
theorem of_bytes (cl fl nx hp fh flo th tlo : Int) (data : ByteArray) (hn : 0 ≤ nx ∧ nx ≤ 255) (hh : 0 ≤ hp ∧ hp ≤ 255) : Bytes (ip6_Lay.of cl fl nx hp fh flo th tlo data) := by
  unfold ip6_Lay.of ip6_Lay.head ip6_Lay.ends
  have h2 : Bytes [nx, hp] := by
    intro x hx
    simp only [List.mem_cons, List.not_mem_nil, or_false] at hx
    omega
  have b := fun n w => (be_bytes n w : Bytes (be n w))
  exact Bytes.append (Bytes.append (Bytes.append (Bytes.append (b _ _) (b _ _)) h2) (Bytes.append (Bytes.append (Bytes.append (b _ _) (b _ _)) (b _ _)) (b _ _))) (MBytes.range _)
theorem of_length (cl fl nx hp fh flo th tlo : Int) (data : ByteArray) : (ip6_Lay.of cl fl nx hp fh flo th tlo data).length = 40 + data.size := by
  unfold ip6_Lay.of ip6_Lay.head ip6_Lay.ends
  simp only [List.length_append, be_length, bytesOf_length, List.length_cons, List.length_nil]
/-- The number at a place. -/
def at_ (l : List Int) (i w : Nat) : Int := num ((l.drop i).take w)
theorem num_ev {l : List Int} (hb : Bytes l) {w : Nat} (hw : w ≤ 8) (hl : w ≤ l.length) (hl2 : l.length ≤ 140737488355200) : Ev (fun k => ip6_Take.num k l (w : Int)) (num (l.take w)) := by
  unfold ip6_Take.num
  have h := get_ev (l := l) (a := 0) (w := (w : Int)) hb hl2 (by omega) (by omega)
  have e : get l 0 (w : Int) = (num (l.take w), true) := by
    unfold get
    rw [if_pos (by unfold fits; omega)]
    unfold slice_
    simp
  rw [e] at h
  exact Ev.bind h (ev_eq fun _ => if_pos rfl)
theorem at_range {l : List Int} (hb : Bytes l) (i w : Nat) : 0 ≤ at_ l i w ∧ at_ l i w < 256 ^ w := by
  unfold at_
  have h := num_range (l := (l.drop i).take w) ((hb.drop _).take _)
  have hl : ((l.drop i).take w).length ≤ w := by rw [List.length_take]; omega
  refine ⟨h.1, Int.lt_of_lt_of_le h.2 ?_⟩
  generalize ((l.drop i).take w).length = m at hl
  obtain ⟨d, rfl⟩ : ∃ d, w = m + d := ⟨w - m, by omega⟩
  rw [Int.pow_add]
  have h1 := pow_pos m
  have h2 := pow_pos d
  have : (256 : Int) ^ m * 1 ≤ 256 ^ m * 256 ^ d := Int.mul_le_mul_of_nonneg_left (by omega) (by omega)
  omega
/-- What ip6.Take comes to. -/
def takeR (s : ByteArray) : Int × Int × Int × Int × Bool × Int × Int × Bool × Int × Int × ByteArray × Int :=
  if (s.size : Int) < 40 then ip6_Take.no 61 else if ¬ bt s 0 / 16 = 6 then ip6_Take.no 60 else if (s.size : Int) - 40 < at_ (bytesOf s) 4 2 then ip6_Take.no 61 else
  (at_ (bytesOf s) 0 4 / 1048576 % 256, at_ (bytesOf s) 0 4 % 1048576, at_ (bytesOf s) 6 1, at_ (bytesOf s) 7 1, true, at_ (bytesOf s) 8 8, at_ (bytesOf s) 16 8, true, at_ (bytesOf s) 24 8, at_ (bytesOf s) 32 8, s.extract 40 (40 + at_ (bytesOf s) 4 2).toNat, 0)
theorem take_ev (s : ByteArray) (hs : s.size ≤ 140737488400000) : Ev (fun k => ip6_Take.f k s) (takeR s) := by
  unfold ip6_Take.f takeR
  by_cases h40 : (s.size : Int) < 40
  · rw [if_pos h40]; exact ev_pos h40 (ev_eq fun _ => rfl)
  rw [if_neg h40]
  refine ev_neg h40 (ev_neg (by omega) ?_)
  by_cases h6 : ¬ bt s 0 / 16 = 6
  · rw [if_pos h6]; exact ev_pos h6 (ev_eq fun _ => rfl)
  rw [if_neg h6]
  refine ev_neg h6 ?_
  have hb := MBytes.range s
  have hl := bytesOf_length s
  have hx : bytesOf (s.extract 0 40) = (bytesOf s).take 40 := by rw [MBytes.extract]; simp
  rw [hx]
  generalize hL : bytesOf s = L at *
  have nev : ∀ (i w : Nat), w ≤ 8 → i + w ≤ 40 → Ev (fun k => ip6_Take.num k ((L.take 40).drop i) (w : Int)) (at_ L i w) := by
    intro i w hw hi
    have h := num_ev (l := (L.take 40).drop i) (Bytes.drop (Bytes.take hb _) _) hw (by rw [List.length_drop, List.length_take]; omega) (by rw [List.length_drop, List.length_take]; omega)
    have e : ((L.take 40).drop i).take w = (L.drop i).take w := by
      rw [List.drop_take, List.take_take, Nat.min_eq_left (by omega)]
    rw [e] at h
    exact h
  have r0 := at_range hb 0 4; have r4 := at_range hb 4 2; have r6 := at_range hb 6 1; have r7 := at_range hb 7 1
  have h0 := nev 0 4 (by omega) (by omega)
  rw [List.drop_zero] at h0
  refine Ev.bind h0 (Ev.bind (nev 4 2 (by omega) (by omega)) (ev_neg (by omega) ?_))
  by_cases hn : (s.size : Int) - 40 < at_ L 4 2
  · rw [if_pos hn]; exact ev_pos hn (ev_eq fun _ => rfl)
  rw [if_neg hn]
  refine ev_neg hn (Ev.bind (nev 6 1 (by omega) (by omega)) (Ev.bind (nev 7 1 (by omega) (by omega)) (ev_neg (by omega) (Ev.bind (nev 8 8 (by omega) (by omega)) (Ev.bind (nev 16 8 (by omega) (by omega)) (Ev.bind (nev 24 8 (by omega) (by omega)) (Ev.bind (nev 32 8 (by omega) (by omega)) (ev_eq fun _ => ?_))))))))
  have e1 := bits_mask .i64 63 (by decide) wraps63 8 (by decide) (at_ L 0 4 / 1048576) (by omega) (by omega)
  have e2 := bits_mask .i64 63 (by decide) wraps63 20 (by decide) (at_ L 0 4) (by omega) (by omega)
  rw [show ((2 : Int) ^ 8 - 1) = 255 by decide, show ((2 : Int) ^ 8) = 256 by decide] at e1
  rw [show ((2 : Int) ^ 20 - 1) = 1048575 by decide, show ((2 : Int) ^ 20) = 1048576 by decide] at e2
  rw [e1, e2]
def may (cl fl nx hp : Int) (s1 s2 : Bool) : Prop := (0 ≤ cl ∧ cl ≤ 255) ∧ (0 ≤ nx ∧ nx ≤ 255) ∧ (0 ≤ hp ∧ hp ≤ 255) ∧ (0 ≤ fl ∧ fl ≤ 1048575) ∧ s1 = true ∧ s2 = true
instance (cl fl nx hp : Int) (s1 s2 : Bool) : Decidable (may cl fl nx hp s1 s2) := by unfold may; infer_instance
def layR (cl fl nx hp : Int) (s1 : Bool) (fh flo : Int) (s2 : Bool) (th tlo : Int) (data : ByteArray) : ByteArray × Int :=
  if may cl fl nx hp s1 s2 then (if 65535 < (data.size : Int) then (⟨#[]⟩, 62) else (strOfNums (ip6_Lay.of cl fl nx hp fh flo th tlo data), 0)) else (⟨#[]⟩, 60)
theorem lay_eq (cl fl nx hp : Int) (s1 : Bool) (fh flo : Int) (s2 : Bool) (th tlo : Int) (data : ByteArray) : ip6_Lay.f cl fl nx hp s1 fh flo s2 th tlo data = some (layR cl fl nx hp s1 fh flo s2 th tlo data) := by
  unfold ip6_Lay.f layR
  by_cases hm : may cl fl nx hp s1 s2
  · rw [if_pos (show _ ∧ _ from hm), if_pos hm]
    split <;> rfl
  · rw [if_neg (show ¬ (_ ∧ _) from hm), if_neg hm]
theorem no_neg (e : Int) : (ip6_Take.no e).2.2.2.2.2.2.2.2.2.2.2 = e := rfl
/-- A packet that is taken up: what it is, and what holds of it. -/
theorem take_ok {s : ByteArray} (h : (takeR s).2.2.2.2.2.2.2.2.2.2.2 = 0) : 40 ≤ s.size ∧ bt s 0 / 16 = 6 ∧ at_ (bytesOf s) 4 2 ≤ (s.size : Int) - 40 ∧
    takeR s = (at_ (bytesOf s) 0 4 / 1048576 % 256, at_ (bytesOf s) 0 4 % 1048576, at_ (bytesOf s) 6 1, at_ (bytesOf s) 7 1, true, at_ (bytesOf s) 8 8, at_ (bytesOf s) 16 8, true, at_ (bytesOf s) 24 8, at_ (bytesOf s) 32 8, s.extract 40 (40 + at_ (bytesOf s) 4 2).toNat, 0) := by
  unfold takeR at h ⊢
  by_cases h40 : (s.size : Int) < 40
  · rw [if_pos h40] at h; cases h
  rw [if_neg h40] at h ⊢
  by_cases h6 : ¬ bt s 0 / 16 = 6
  · rw [if_pos h6] at h; cases h
  rw [if_neg h6] at h ⊢
  by_cases hn : (s.size : Int) - 40 < at_ (bytesOf s) 4 2
  · rw [if_pos hn] at h; cases h
  rw [if_neg hn]
  exact ⟨by omega, by omega, by omega, rfl⟩
theorem take_bad {s : ByteArray} (h : ¬ (takeR s).2.2.2.2.2.2.2.2.2.2.2 = 0) : takeR s = ip6_Take.no (takeR s).2.2.2.2.2.2.2.2.2.2.2 := by
  unfold takeR at h ⊢
  by_cases h40 : (s.size : Int) < 40
  · rw [if_pos h40]; rfl
  rw [if_neg h40] at h ⊢
  by_cases h6 : ¬ bt s 0 / 16 = 6
  · rw [if_pos h6]; rfl
  rw [if_neg h6] at h ⊢
  by_cases hn : (s.size : Int) - 40 < at_ (bytesOf s) 4 2
  · rw [if_pos hn]; rfl
  rw [if_neg hn] at h
  exact absurd rfl h
theorem data_size {s : ByteArray} (h40 : 40 ≤ s.size) (hn : at_ (bytesOf s) 4 2 ≤ (s.size : Int) - 40) : ((s.extract 40 (40 + at_ (bytesOf s) 4 2).toNat).size : Int) = at_ (bytesOf s) 4 2 := by
  have r := at_range (MBytes.range s) 4 2
  rw [← bytesOf_length, MBytes.extract, List.length_take, List.length_drop, bytesOf_length]
  omega
theorem take_add (l : List Int) (i w : Nat) : l.take (i + w) = l.take i ++ (l.drop i).take w := by
  rw [List.take_add]
theorem be_at {l : List Int} (hb : Bytes l) {i w : Nat} (h : i + w ≤ l.length) : be (at_ l i w) w = (l.drop i).take w := by
  have h1 := num_eq_be (l := (l.drop i).take w) ((hb.drop _).take _)
  rw [show ((l.drop i).take w).length = w by rw [List.length_take, List.length_drop]; omega] at h1
  exact h1
theorem one_at {l : List Int} (hb : Bytes l) {i : Nat} (h : i + 1 ≤ l.length) : [at_ l i 1] = (l.drop i).take 1 := by
  have h1 := be_at hb (w := 1) h
  have r := at_range hb i 1
  rw [← h1]
  simp only [be, Int.pow_zero, Int.ediv_one]
  rw [show at_ l i 1 % 256 = at_ l i 1 by omega]
theorem first_top (s : ByteArray) (h : 4 ≤ s.size) : at_ (bytesOf s) 0 4 / 268435456 = bt s 0 / 16 := by
  have hb := MBytes.range s
  have hl := bytesOf_length s
  rw [← rd_bytesOf]
  unfold at_
  rw [List.drop_zero]
  generalize bytesOf s = l at *
  match l, hl with
  | a :: m, hl =>
    have hm : (m.take 3).length = 3 := by rw [List.length_take]; simp at hl; omega
    have hr := num_range (l := m.take 3) (fun x hx => hb x (List.mem_cons_of_mem _ (List.mem_of_mem_take hx)))
    rw [hm] at hr
    have ha := hb a (List.mem_cons_self ..)
    rw [List.take_succ_cons, num_cons, hm]
    simp only [rd]
    simp
    omega
  | [], hl => simp at hl; omega
/-- A packet that is taken up is laid as its bytes. -/
theorem relaid {s : ByteArray} (h40 : 40 ≤ s.size) (h6 : bt s 0 / 16 = 6) (hn : at_ (bytesOf s) 4 2 ≤ (s.size : Int) - 40) :
    ip6_Lay.of (at_ (bytesOf s) 0 4 / 1048576 % 256) (at_ (bytesOf s) 0 4 % 1048576) (at_ (bytesOf s) 6 1) (at_ (bytesOf s) 7 1) (at_ (bytesOf s) 8 8) (at_ (bytesOf s) 16 8) (at_ (bytesOf s) 24 8) (at_ (bytesOf s) 32 8) (s.extract 40 (40 + at_ (bytesOf s) 4 2).toNat) = (bytesOf s).take (40 + at_ (bytesOf s) 4 2).toNat := by
  have hb := MBytes.range s
  have hl := bytesOf_length s
  have ht := first_top s (by omega)
  have hd := data_size h40 hn
  have r0 := at_range hb 0 4
  have r4 := at_range hb 4 2
  have e0 := first_eq (cl := at_ (bytesOf s) 0 4 / 1048576 % 256) (fl := at_ (bytesOf s) 0 4 % 1048576) (by omega) (by omega)
  rw [show 1610612736 + at_ (bytesOf s) 0 4 / 1048576 % 256 * 1048576 + at_ (bytesOf s) 0 4 % 1048576 = at_ (bytesOf s) 0 4 by omega] at e0
  unfold ip6_Lay.of ip6_Lay.head ip6_Lay.ends
  rw [e0, hd, MBytes.extract, show (40 + at_ (bytesOf s) 4 2).toNat - 40 = (at_ (bytesOf s) 4 2).toNat by omega]
  have hN : (40 + at_ (bytesOf s) 4 2).toNat = 40 + (at_ (bytesOf s) 4 2).toNat := by omega
  rw [hN]
  generalize (at_ (bytesOf s) 4 2).toNat = n
  generalize bytesOf s = l at *
  rw [be_at hb (by omega), be_at hb (by omega), be_at hb (by omega), be_at hb (by omega), be_at hb (by omega), be_at hb (by omega), List.drop_zero]
  rw [show [at_ l 6 1, at_ l 7 1] = [at_ l 6 1] ++ [at_ l 7 1] from rfl, one_at hb (by omega), one_at hb (by omega)]
  rw [take_add l 40 n, take_add l 32 8, take_add l 24 8, take_add l 16 8, take_add l 8 8, take_add l 7 1, take_add l 6 1, take_add l 4 2]
  simp only [List.append_assoc]
theorem hops_at {s : ByteArray} (h : 8 ≤ s.size) : at_ (bytesOf s) 7 1 = bt s 7 := by
  have hb := MBytes.range s
  have hl := bytesOf_length s
  rw [← rd_bytesOf]
  generalize bytesOf s = l at *
  unfold at_
  have : (l.drop 7).take 1 = [l[7]] := by
    rw [List.drop_eq_getElem_cons (show 7 < l.length by omega)]; rfl
  rw [this]
  simp [num, rd, List.getElem?_eq_getElem (show 7 < l.length by omega)]
/-- One hop less, in the bytes. -/
theorem of_set (cl fl nx hp fh flo th tlo : Int) (data : ByteArray) (v : Int) : (ip6_Lay.of cl fl nx hp fh flo th tlo data).set 7 v = ip6_Lay.of cl fl nx v fh flo th tlo data := by
  unfold ip6_Lay.of ip6_Lay.head
  rfl
end Go.Proofs.YtaoopneiglgnkaaDoor.Pure6
namespace Go.Proofs.YtaoopneiglgnkaaDoor.Pure6
open Go.RowKit Go.Proofs.YtaoopneiglgnkaaDoor.PBase Go.Proofs.YtaoopneiglgnkaaDoorW.PrintWords Go.Proofs.YtaoopneiglgnkaaDoorW.PrintLast Go.Proofs.YtaoopneiglgnkaaDoorW.PrintMore Go.Proofs.YtaoopneiglgnkaaDoor.MTally Go.Proofs.YtaoopneiglgnkaaDoor.MBe
theorem at_app {p q : List Int} {i : Nat} (v : Int) (w : Nat) (hp : p.length = i) : at_ (p ++ (be v w ++ q)) i w = v % 256 ^ w := by
  unfold at_
  rw [List.drop_left' hp, List.take_left' (be_length _ _), num_be]
theorem be_one {n : Int} (h : 0 ≤ n ∧ n ≤ 255) : be n 1 = [n] := by
  simp only [be, Int.pow_zero, Int.ediv_one]; rw [show n % 256 = n by omega]
/-- Bytes that begin with a packet's are that packet. -/
theorem take_of {s : ByteArray} {cl fl nx hp fh flo th tlo : Int} {data : ByteArray} {B : List Int} (h : bytesOf s = ip6_Lay.of cl fl nx hp fh flo th tlo data ++ B) (hm : may cl fl nx hp true true) (hd : (data.size : Int) ≤ 65535)
    (u1 : 0 ≤ fh ∧ fh ≤ 18446744073709551615) (u2 : 0 ≤ flo ∧ flo ≤ 18446744073709551615) (u3 : 0 ≤ th ∧ th ≤ 18446744073709551615) (u4 : 0 ≤ tlo ∧ tlo ≤ 18446744073709551615) :
    takeR s = (cl, fl, nx, hp, true, fh, flo, true, th, tlo, data, 0) ∧ bt s 0 / 16 = 6 ∧ at_ (bytesOf s) 4 2 = (data.size : Int) ∧ s.size = 40 + data.size + B.length := by
  obtain ⟨h1, h2, h3, h4, _, _⟩ := hm
  have hsz : s.size = 40 + data.size + B.length := by rw [← bytesOf_length, h, List.length_append, of_length]
  have hft := first_top s (by omega)
  have ef := first_eq h1 h4
  have hL : bytesOf s = be (ip6_Lay.first cl fl) 4 ++ (be (data.size : Int) 2 ++ (be nx 1 ++ (be hp 1 ++ (be fh 8 ++ (be flo 8 ++ (be th 8 ++ (be tlo 8 ++ (bytesOf data ++ B)))))))) := by
    rw [h, be_one h2, be_one h3]
    unfold ip6_Lay.of ip6_Lay.head ip6_Lay.ends
    simp
  have a0 : at_ (bytesOf s) 0 4 = ip6_Lay.first cl fl := by
    rw [hL]
    have := at_app (p := []) (q := be (data.size : Int) 2 ++ (be nx 1 ++ (be hp 1 ++ (be fh 8 ++ (be flo 8 ++ (be th 8 ++ (be tlo 8 ++ (bytesOf data ++ B)))))))) (i := 0) (ip6_Lay.first cl fl) 4 rfl
    rw [List.nil_append] at this
    rw [this, ef]; omega
  have a4 : at_ (bytesOf s) 4 2 = (data.size : Int) := by
    rw [hL, at_app (data.size : Int) 2 (be_length _ _)]; omega
  have a6 : at_ (bytesOf s) 6 1 = nx := by
    rw [hL, ← List.append_assoc, at_app nx 1 (by simp [be_length])]; omega
  have a7 : at_ (bytesOf s) 7 1 = hp := by
    rw [hL, ← List.append_assoc, ← List.append_assoc, at_app hp 1 (by simp [be_length])]; omega
  have a8 : at_ (bytesOf s) 8 8 = fh := by
    rw [hL, ← List.append_assoc, ← List.append_assoc, ← List.append_assoc, at_app fh 8 (by simp [be_length])]; omega
  have a16 : at_ (bytesOf s) 16 8 = flo := by
    rw [hL, ← List.append_assoc, ← List.append_assoc, ← List.append_assoc, ← List.append_assoc, at_app flo 8 (by simp [be_length])]; omega
  have a24 : at_ (bytesOf s) 24 8 = th := by
    rw [hL, ← List.append_assoc, ← List.append_assoc, ← List.append_assoc, ← List.append_assoc, ← List.append_assoc, at_app th 8 (by simp [be_length])]; omega
  have a32 : at_ (bytesOf s) 32 8 = tlo := by
    rw [hL, ← List.append_assoc, ← List.append_assoc, ← List.append_assoc, ← List.append_assoc, ← List.append_assoc, ← List.append_assoc, at_app tlo 8 (by simp [be_length])]; omega
  have a40 : s.extract 40 (40 + (data.size : Int)).toNat = data := by
    apply MBytes.inj
    rw [MBytes.extract, h, List.drop_append_of_le_length (by rw [of_length]; omega)]
    have e : (ip6_Lay.of cl fl nx hp fh flo th tlo data).drop 40 = bytesOf data := by
      unfold ip6_Lay.of
      exact List.drop_left' (by unfold ip6_Lay.head ip6_Lay.ends; simp [be_length])
    rw [e]
    exact List.take_left' (by rw [bytesOf_length]; omega)
  have h6 : bt s 0 / 16 = 6 := by rw [← hft, a0, ef]; omega
  refine ⟨?_, h6, a4, hsz⟩
  unfold takeR
  rw [if_neg (by omega), if_neg (by omega), a4, if_neg (by omega), a0, a6, a7, a8, a16, a24, a32, a40, ef]
  rw [show (1610612736 + cl * 1048576 + fl) / 1048576 % 256 = cl by omega, show (1610612736 + cl * 1048576 + fl) % 1048576 = fl by omega]
/-- What is cut short is none. -/
theorem take_cut {s : ByteArray} {n : Int} (h6 : bt s 0 / 16 = 6) (hn : at_ (bytesOf s) 4 2 = n) (hs : (s.size : Int) = 40 + n) {c : Nat} (hc : c < s.size) : (takeR (s.extract 0 c)).2.2.2.2.2.2.2.2.2.2.2 = 61 := by
  have hx : bytesOf (s.extract 0 c) = (bytesOf s).take c := by rw [MBytes.extract]; simp
  have hz : (s.extract 0 c).size = c := by rw [← bytesOf_length, hx, List.length_take, bytesOf_length]; omega
  unfold takeR
  by_cases h40 : ((s.extract 0 c).size : Int) < 40
  · rw [if_pos h40]; rfl
  have hb0 : bt (s.extract 0 c) 0 = bt s 0 := by
    rw [← rd_bytesOf, ← rd_bytesOf, hx]
    simp only [rd]
    rw [List.getD_eq_getElem?_getD, List.getD_eq_getElem?_getD, List.getElem?_take, if_pos (by simp; omega)]
  have h4 : at_ (bytesOf (s.extract 0 c)) 4 2 = n := by
    rw [hx, ← hn]
    unfold at_
    rw [List.drop_take, List.take_take, Nat.min_eq_left (by omega)]
  rw [if_neg h40, hb0, if_neg (by omega), h4, if_pos (by omega)]
  rfl
end Go.Proofs.YtaoopneiglgnkaaDoor.Pure6
namespace Go.Proofs.YtaoopneiglgnkaaDoor.Pure6
open Go.RowKit Go.Proofs.YtaoopneiglgnkaaDoor.PBase Go.Proofs.YtaoopneiglgnkaaDoorW.PrintWords Go.Proofs.YtaoopneiglgnkaaDoorW.PrintLast Go.Proofs.YtaoopneiglgnkaaDoorW.PrintMore Go.Proofs.YtaoopneiglgnkaaDoor.MTally Go.Proofs.YtaoopneiglgnkaaDoor.MBe
/-- Is a number that of a further header? -/
def Kn (n : Int) : Prop := n = 0 ∨ n = 43 ∨ n = 60 ∨ n = 44
instance (n : Int) : Decidable (Kn n) := by unfold Kn; infer_instance
/-- Further headers one behind the other, from a number and a place on to the last number and place. -/
def Row (s : ByteArray) : Int → Int → List S68 → Int → Int → Prop
  | n, p, [], last, e => n = last ∧ p = e
  | n, p, x :: xs, last, e => Kn n ∧ x.f0 = n ∧ x.f1 = p ∧ 8 ≤ x.f2 ∧ x.f2 % 8 = 0 ∧ p + x.f2 ≤ (s.size : Int) ∧ Row s (bt s p) (p + x.f2) xs last e
theorem Row.le {s : ByteArray} : ∀ {xs : List S68} {n p last e : Int}, Row s n p xs last e → p ≤ e
  | [], _, _, _, _, h => by rw [h.2]; exact Int.le_refl _
  | x :: xs, _, _, _, _, ⟨_, _, _, h8, _, _, h⟩ => by have := h.le; omega
theorem n_eight (s : ByteArray) (next p : Int) : ip6_Chain.n s next p % 8 = 0 := by unfold ip6_Chain.n; split <;> omega
theorem chain_step (s : ByteArray) (m : Nat) (next : Int) (out : List S68) (p : Int) : ip6_Chain.l s (m + 1) next out p = if Kn next then
   (if next = 0 ∧ 0 < p then some ([], 0, 0, 64) else if (out.length : Int) = 16 then some ([], 0, 0, 64) else
    if (s.size : Int) - p < ip6_Chain.n s next p then some ([], 0, 0, 61) else ip6_Chain.l s m (bt s p) (out ++ [(⟨next, p, ip6_Chain.n s next p⟩ : S68)]) (p + ip6_Chain.n s next p))
   else some (out, next, p, 0) := rfl
/-- It comes to an end. -/
theorem chain_some (s : ByteArray) : ∀ (m : Nat) (next : Int) (out : List S68) (p : Int), out.length ≤ 16 → 17 ≤ m + out.length → ∃ r, ip6_Chain.l s m next out p = some r
  | 0, _, out, _, h, h2 => by omega
  | m + 1, next, out, p, h, h2 => by
    rw [chain_step]
    by_cases h1 : Kn next
    case neg => exact ⟨_, by rw [if_neg h1]⟩
    rw [if_pos h1]
    by_cases h3 : next = 0 ∧ 0 < p
    · exact ⟨_, by rw [if_pos h3]⟩
    rw [if_neg h3]
    by_cases h4 : (out.length : Int) = 16
    · exact ⟨_, by rw [if_pos h4]⟩
    rw [if_neg h4]
    by_cases h5 : (s.size : Int) - p < ip6_Chain.n s next p
    · exact ⟨_, by rw [if_pos h5]⟩
    rw [if_neg h5]
    exact chain_some s m _ _ _ (by rw [List.length_append]; simp; omega) (by rw [List.length_append]; simp; omega)
/-- What it ends with: nothing, or a row of further headers. -/
theorem chain_row (s : ByteArray) : ∀ (m : Nat) (next : Int) (out : List S68) (p : Int) (r : List S68 × Int × Int × Int), ip6_Chain.l s m next out p = some r →
    (∃ e, e ≠ 0 ∧ r = ([], 0, 0, e)) ∨ (∃ xs last e, r = (out ++ xs, last, e, 0) ∧ Row s next p xs last e)
  | 0, _, _, _, _, h => by cases h
  | m + 1, next, out, p, r, h => by
    rw [chain_step] at h
    by_cases h1 : Kn next
    case neg =>
      rw [if_neg h1] at h
      obtain rfl := Option.some.inj h
      exact Or.inr ⟨[], next, p, by rw [List.append_nil], rfl, rfl⟩
    rw [if_pos h1] at h
    by_cases h3 : next = 0 ∧ 0 < p
    · rw [if_pos h3] at h; exact Or.inl ⟨64, by decide, (Option.some.inj h).symm⟩
    rw [if_neg h3] at h
    by_cases h4 : (out.length : Int) = 16
    · rw [if_pos h4] at h; exact Or.inl ⟨64, by decide, (Option.some.inj h).symm⟩
    rw [if_neg h4] at h
    by_cases h5 : (s.size : Int) - p < ip6_Chain.n s next p
    · rw [if_pos h5] at h; exact Or.inl ⟨61, by decide, (Option.some.inj h).symm⟩
    rw [if_neg h5] at h
    rcases chain_row s m _ _ _ _ h with h | ⟨xs, last, e, hr, hx⟩
    · exact Or.inl h
    · refine Or.inr ⟨_ :: xs, last, e, by rw [hr, List.append_assoc]; rfl, h1, rfl, rfl, (ip6_Chain.n_pos s next p).1, n_eight s next p, ?_, hx⟩
      simp only
      omega
theorem bt_behind (s b : ByteArray) {i : Int} (h0 : 0 ≤ i) (h1 : i < (s.size : Int)) : bt (s ++ b) i = bt s i := by
  rw [← rd_bytesOf, ← rd_bytesOf, MBytes.append]
  unfold rd
  have hl := bytesOf_length s
  rw [List.getD_eq_getElem?_getD, List.getD_eq_getElem?_getD, List.getElem?_append_left (by omega)]
/-- With more bytes behind it stays. -/
theorem chain_stays (s b : ByteArray) : ∀ (m : Nat) (next : Int) (out : List S68) (p : Int) (l : List S68) (last e : Int), 0 ≤ p → ip6_Chain.l s m next out p = some (l, last, e, 0) → ip6_Chain.l (s ++ b) m next out p = some (l, last, e, 0)
  | 0, _, _, _, _, _, _, _, h => by cases h
  | m + 1, next, out, p, l, last, e, hp, h => by
    rw [chain_step] at h ⊢
    by_cases h1 : Kn next
    case neg => rw [if_neg h1] at h ⊢; exact h
    rw [if_pos h1] at h ⊢
    by_cases h3 : next = 0 ∧ 0 < p
    · rw [if_pos h3] at h; cases h
    rw [if_neg h3] at h ⊢
    by_cases h4 : (out.length : Int) = 16
    · rw [if_pos h4] at h; cases h
    rw [if_neg h4] at h ⊢
    by_cases h5 : (s.size : Int) - p < ip6_Chain.n s next p
    · rw [if_pos h5] at h; cases h
    have hn := ip6_Chain.n_pos s next p
    have hz : ((s ++ b).size : Int) = (s.size : Int) + (b.size : Int) := by rw [ByteArray.size_append]; omega
    have en : ip6_Chain.n (s ++ b) next p = ip6_Chain.n s next p := by
      unfold ip6_Chain.n
      by_cases h6 : next ≠ 44
      · rw [if_pos ⟨h6, by omega⟩, if_pos ⟨h6, by omega⟩, bt_behind s b (by omega) (by omega)]
      · rw [if_neg (fun h => h6 h.1), if_neg (fun h => h6 h.1)]
    rw [if_neg h5] at h
    rw [en, if_neg (by omega), bt_behind s b hp (by omega)]
    exact chain_stays s b m _ _ _ _ _ _ (by omega) h
/-- What ip6.Chain comes to. -/
theorem chain_ok (next : Int) (s : ByteArray) (hs : s.size ≤ 281474976710656) : ∃ r, ip6_Chain.f next s = some r ∧ ip6_Chain.l s 18 next [] 0 = some r := by
  obtain ⟨r, hr⟩ := chain_some s 18 next [] 0 (by simp) (by simp)
  exact ⟨r, by unfold ip6_Chain.f; rw [if_pos (by omega), hr], hr⟩
theorem rd41 {l : List S68} {pre xs : List S68} {x : S68} (h : l = pre ++ x :: xs) : rd_T68 l (pre.length : Int) = x := by
  unfold rd_T68
  rw [h, Int.toNat_natCast, List.getD_eq_getElem?_getD, List.getElem?_append_right (Nat.le_refl _), Nat.sub_self]
  rfl
/-- What stands ahead in every piece. -/
def headR : List S68 → Int → Int
  | [], h => h
  | x :: xs, h => if x.f0 = 44 then h else if x.f0 = 0 ∨ x.f0 = 43 then headR xs (x.f1 + x.f2) else headR xs h
theorem headR_le {s : ByteArray} : ∀ {xs : List S68} {n p last e h : Int}, Row s n p xs last e → 0 ≤ p → 0 ≤ h → h ≤ p → 0 ≤ headR xs h ∧ headR xs h ≤ e
  | [], _, _, _, _, _, hr, _, h0, h1 => by rw [← hr.2]; exact ⟨h0, h1⟩
  | x :: xs, _, p, _, e, h, ⟨_, _, h1, h8, _, _, hr⟩, hp, h0, hle => by
    have := hr.le
    unfold headR
    split
    · omega
    split
    · exact headR_le hr (by omega) (by omega) (by omega)
    · exact headR_le hr (by omega) h0 (by omega)
theorem row_size {s : ByteArray} : ∀ {xs : List S68} {n p last e : Int}, Row s n p xs last e → p + 8 * (xs.length : Int) ≤ e
  | [], _, _, _, _, h => by rw [h.2]; simp
  | x :: xs, _, _, _, _, ⟨_, _, _, h8, _, _, h⟩ => by have := row_size h; simp only [List.length_cons]; omega
/-- No more than sixteen. -/
theorem chain_sixteen (s : ByteArray) : ∀ (m : Nat) (next : Int) (out : List S68) (p : Int) (r : List S68 × Int × Int × Int), out.length ≤ 16 → ip6_Chain.l s m next out p = some r → r.1.length ≤ 16
  | 0, _, _, _, _, _, h => by cases h
  | m + 1, next, out, p, r, ho, h => by
    rw [chain_step] at h
    by_cases h1 : Kn next
    case neg =>
      rw [if_neg h1] at h
      obtain rfl := Option.some.inj h
      exact ho
    rw [if_pos h1] at h
    by_cases h3 : next = 0 ∧ 0 < p
    · rw [if_pos h3] at h; obtain rfl := Option.some.inj h; simp
    rw [if_neg h3] at h
    by_cases h4 : (out.length : Int) = 16
    · rw [if_pos h4] at h; obtain rfl := Option.some.inj h; simp
    rw [if_neg h4] at h
    by_cases h5 : (s.size : Int) - p < ip6_Chain.n s next p
    · rw [if_pos h5] at h; obtain rfl := Option.some.inj h; simp
    rw [if_neg h5] at h
    exact chain_sixteen s m _ _ _ _ (by rw [List.length_append]; simp; omega) h
end Go.Proofs.YtaoopneiglgnkaaDoor.Pure6
