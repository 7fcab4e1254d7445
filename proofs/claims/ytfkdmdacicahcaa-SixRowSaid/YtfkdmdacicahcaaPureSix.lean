/-
  What the functions of layer 7 come to, those of the reference beside them. No program in sight but their Lean functions. Conditions: those of each theorem.
-/
import Derived.Test.YtfkdmdacicahcaaPBasex5
import Derived.Test.YtfkdmdacicahcaaMTally
import Derived.Test.YtfkdmdacicahcaaMBytes
import Derived.Laws.BitsLemmas
set_option linter.unusedVariables false
set_option linter.unusedSectionVars false
set_option linter.unusedSimpArgs false
namespace Go.Proofs.Ytfkdmdacicahcaa.Pure
open Go.RowKit Go.Proofs.Ytfkdmdacicahcaa.PBase Go.Proofs.YtfkdmdacicahcaaW.PrintWords Go.Proofs.YtfkdmdacicahcaaW.PrintLast Go.Proofs.YtfkdmdacicahcaaW.PrintMore Go.Proofs.Ytfkdmdacicahcaa.MTally Go.Proofs.Ytfkdmdacicahcaa.MBe
/-! Small steps for what printed functions come to. -/
theorem w64 {n : Int} (h0 : -9223372036854775808 ≤ n) (h1 : n ≤ 9223372036854775807) : wrap64 n = n := by unfold wrap64; omega
theorem wu64 {n : Int} (h0 : 0 ≤ n) (h1 : n < 18446744073709551616) : IntKind.u64.wrap n = n := by
  simp only [IntKind.wrap, IntKind.signed, IntKind.bits, Bool.false_and, Bool.false_eq_true, if_false]; omega
theorem wu64' (n : Int) : IntKind.u64.wrap n = n % 18446744073709551616 := by
  simp only [IntKind.wrap, IntKind.signed, IntKind.bits, Bool.false_and, Bool.false_eq_true, if_false]; rfl
theorem wu32 {n : Int} (h0 : 0 ≤ n) (h1 : n < 4294967296) : IntKind.u32.wrap n = n := by
  simp only [IntKind.wrap, IntKind.signed, IntKind.bits, Bool.false_and, Bool.false_eq_true, if_false]; omega
theorem wu16 {n : Int} (h0 : 0 ≤ n) (h1 : n < 65536) : IntKind.u16.wrap n = n := by
  simp only [IntKind.wrap, IntKind.signed, IntKind.bits, Bool.false_and, Bool.false_eq_true, if_false]; omega
theorem wu8 {n : Int} (h0 : 0 ≤ n) (h1 : n < 256) : IntKind.u8.wrap n = n := by
  simp only [IntKind.wrap, IntKind.signed, IntKind.bits, Bool.false_and, Bool.false_eq_true, if_false]; omega
theorem ev_pos {α : Type} {c : Prop} [Decidable c] {f g : Nat → Option α} {r : α} (hc : c) (h : Ev f r) : Ev (fun k => if c then f k else g k) r := by
  simp only [if_pos hc]; exact h
theorem ev_neg {α : Type} {c : Prop} [Decidable c] {f g : Nat → Option α} {r : α} (hc : ¬ c) (h : Ev g r) : Ev (fun k => if c then f k else g k) r := by
  simp only [if_neg hc]; exact h
theorem ev_eq {α : Type} {f : Nat → Option α} {r : α} (h : ∀ k, f k = some r) : Ev f r := ⟨0, fun k _ => h k⟩
theorem ev_bind {α β : Type} {o : Option α} {f : Nat → α → Option β} {a : α} {r : β} (h : o = some a) (k : Ev (fun n => f n a) r) : Ev (fun n => o.bind (f n)) r := by
  subst h; exact k
theorem rd_at {xs : List Int} {i : Nat} (h : i < xs.length) : rd xs (i : Int) = xs[i] := by
  simp [rd, List.getElem?_eq_getElem h]
theorem byte_at {xs : List Int} (hb : Bytes xs) {i : Nat} (h : i < xs.length) : 0 ≤ xs[i] ∧ xs[i] ≤ 255 := hb _ (List.getElem_mem h)
theorem byte_of_wf {a : Int} (h : (Lit.int .u8 a).wf = true) : 0 ≤ a ∧ a ≤ 255 := by
  have := h
  simp [Lit.wf, IntKind.min, IntKind.max, IntKind.signed, IntKind.bits] at this
  exact this
theorem i64_of_wf {a : Int} (h : (Lit.int .i64 a).wf = true) : -9223372036854775808 ≤ a ∧ a ≤ 9223372036854775807 := by
  have := h
  simp [Lit.wf, IntKind.min, IntKind.max, IntKind.signed, IntKind.bits] at this
  exact this
theorem u64_of_wf {a : Int} (h : (Lit.int .u64 a).wf = true) : 0 ≤ a ∧ a ≤ 18446744073709551615 := by
  have := h
  simp [Lit.wf, IntKind.min, IntKind.max, IntKind.signed, IntKind.bits] at this
  exact this
theorem u32_of_wf {a : Int} (h : (Lit.int .u32 a).wf = true) : 0 ≤ a ∧ a ≤ 4294967295 := by
  have := h
  simp [Lit.wf, IntKind.min, IntKind.max, IntKind.signed, IntKind.bits] at this
  exact this
theorem u16_of_wf {a : Int} (h : (Lit.int .u16 a).wf = true) : 0 ≤ a ∧ a ≤ 65535 := by
  have := h
  simp [Lit.wf, IntKind.min, IntKind.max, IntKind.signed, IntKind.bits] at this
  exact this
theorem bytes_of_wf {l : List Int} (h : ∀ x ∈ l, (Lit.int .u8 x).wf = true) : Bytes l := fun x hx => byte_of_wf (h x hx)
/-! octet.Get: the number at a place, or none. -/
def fits (l : List Int) (at_ w : Int) : Prop := 0 ≤ w ∧ w ≤ 8 ∧ 0 ≤ at_ ∧ at_ + w ≤ (l.length : Int)
instance (l : List Int) (a w : Int) : Decidable (fits l a w) := by unfold fits; infer_instance
def slice_ (l : List Int) (at_ w : Int) : List Int := (l.drop at_.toNat).take w.toNat
def get (l : List Int) (at_ w : Int) : Int × Bool := if fits l at_ w then (num (slice_ l at_ w), true) else (0, false)
theorem slice_length {l : List Int} {a w : Int} (h : fits l a w) : (slice_ l a w).length = w.toNat := by
  unfold fits at h; unfold slice_; rw [List.length_take, List.length_drop]; omega
theorem slice_bytes {l : List Int} (hb : Bytes l) (a w : Int) : Bytes (slice_ l a w) := (hb.drop _).take _
theorem p256 {i : Nat} (h : i ≤ 8) : (256 : Int) ^ i ≤ 18446744073709551616 := by
  rcases i with _ | _ | _ | _ | _ | _ | _ | _ | _ | i <;> first | decide | (exfalso; omega)
theorem p256' {i : Nat} (h : i ≤ 7) : (256 : Int) ^ i ≤ 72057594037927936 := by
  rcases i with _ | _ | _ | _ | _ | _ | _ | _ | i <;> first | decide | (exfalso; omega)
theorem num_lt {l : List Int} (hb : Bytes l) (h : l.length ≤ 7) : 0 ≤ num l ∧ num l < 72057594037927936 := by
  have h1 := num_range hb; have h2 := p256' h; exact ⟨h1.1, Int.lt_of_lt_of_le h1.2 h2⟩
theorem num_lt8 {l : List Int} (hb : Bytes l) (h : l.length ≤ 8) : 0 ≤ num l ∧ num l < 18446744073709551616 := by
  have h1 := num_range hb; have h2 := p256 h; exact ⟨h1.1, Int.lt_of_lt_of_le h1.2 h2⟩
theorem or_byte {n b : Int} (h0 : 0 ≤ n) (h1 : n < 72057594037927936) (hb : 0 ≤ b ∧ b ≤ 255) : Go.bits .or .u64 (IntKind.u64.wrap (n * 256)) (IntKind.u64.wrap b) = n * 256 + b := by
  rw [wu64 (n := n * 256) (by omega) (by omega), wu64 (n := b) (by omega) (by omega)]
  refine bits_join .u64 64 (by decide) (fun m h2 h3 => wu64 h2 (by omega)) 8 _ _ (by omega) (by omega) (by omega) hb.1 (by omega) (by omega)
theorem take_snoc {l : List Int} {a i : Nat} (h : a + i < l.length) : (l.drop a).take (i + 1) = (l.drop a).take i ++ [l[a + i]] := by
  rw [List.take_add_one]
  congr 1
  rw [List.getElem?_drop, List.getElem?_eq_getElem h]; rfl
theorem get_l0 {l : List Int} (hb : Bytes l) (hl : l.length ≤ 140737488355200) {a w : Nat} (hw : w ≤ 8) (hf : a + w ≤ l.length) : ∀ d i : Nat, w = i + d →
    Ev (fun k => octet_Get.l0 k l (a : Int) (num ((l.drop a).take i)) (w : Int) (i : Int)) (num ((l.drop a).take w), true) := by
  intro d
  induction d with
  | zero =>
    intro i he
    have e : i = w := by omega
    subst e
    refine Ev.step (f := fun _ => _) (fun k => ?_) (Ev.now _)
    simp only [octet_Get.l0]; rw [if_neg (by omega)]
  | succ d ih =>
    intro i he
    have hlt : a + i < l.length := by omega
    have hbt := byte_at hb hlt
    have hn := num_lt (l := (l.drop a).take i) ((hb.drop _).take _) (by rw [List.length_take]; omega)
    refine Ev.step (f := fun k => octet_Get.l0 k l (a : Int) (num ((l.drop a).take (i + 1))) (w : Int) ((i + 1 : Nat) : Int)) (fun k => ?_) (ih (i + 1) (by omega))
    simp only [octet_Get.l0]
    rw [if_pos (by omega), w64 (n := (a : Int) + (i : Int)) (by omega) (by omega), if_pos (by omega), if_pos (by omega), w64 (n := (i : Int) + 1) (by omega) (by omega)]
    rw [show (a : Int) + (i : Int) = ((a + i : Nat) : Int) by omega, rd_at hlt, or_byte hn.1 hn.2 hbt, take_snoc hlt, num_snoc]; rfl
theorem get_ev {l : List Int} (hb : Bytes l) (hl : l.length ≤ 140737488355200) {a w : Int} (ha : -9223372036854775808 ≤ a ∧ a ≤ 9223372036854775807) (hw : -9223372036854775808 ≤ w ∧ w ≤ 9223372036854775807) :
    Ev (fun k => octet_Get.f k l a w) (get l a w) := by
  have none_ : ∀ k x0 x1 x2, octet_Get.j0 (k + 1) x0 x1 x2 true = some (0, false) := fun k x0 x1 x2 => by simp only [octet_Get.j0]; rw [if_pos trivial]
  have bad : ∀ {a' w' : Int}, Ev (fun k => octet_Get.j0 k l a' w' true) (0, false) := Ev.step (f := fun _ => _) (fun k => none_ k _ _ _) (Ev.now _)
  unfold octet_Get.f get
  by_cases h1 : w < 0
  · rw [if_neg (by unfold fits; omega)]; exact ev_pos h1 bad
  refine ev_neg h1 ?_
  by_cases h2 : w > 8
  · rw [if_neg (by unfold fits; omega)]; exact ev_pos h2 bad
  refine ev_neg h2 ?_
  by_cases h3 : a < 0
  · rw [if_neg (by unfold fits; omega)]; exact ev_pos h3 bad
  refine ev_neg h3 ?_
  by_cases h4 : a > (l.length : Int)
  · rw [if_neg (by unfold fits; omega)]; exact ev_pos h4 bad
  refine ev_neg h4 ?_
  rw [w64 (n := (l.length : Int) - a) (by omega) (by omega)]
  by_cases h5 : w > (l.length : Int) - a
  · rw [if_neg (by unfold fits; omega), decide_eq_true h5]; exact bad
  rw [if_pos (by unfold fits; omega), decide_eq_false h5]
  obtain ⟨an, rfl⟩ := Int.eq_ofNat_of_zero_le (show 0 ≤ a by omega)
  obtain ⟨wn, rfl⟩ := Int.eq_ofNat_of_zero_le (show 0 ≤ w by omega)
  have h := get_l0 hb hl (a := an) (w := wn) (by omega) (by omega) wn 0 (by omega)
  refine Ev.step (f := fun k => octet_Get.l0 k l (an : Int) 0 (wn : Int) 0) (fun k => ?_) ?_
  · simp only [octet_Get.j0]; rw [if_neg (by decide)]
  · exact h
theorem wraps63 (n : Int) (h0 : 0 ≤ n) (h1 : n < 2 ^ 63) : IntKind.i64.wrap n = n := by rw [IntKind.wrap_i64]; omega
/-- A packet's first number. -/
theorem first_eq {cl fl : Int} (hc : 0 ≤ cl ∧ cl ≤ 255) (hf : 0 ≤ fl ∧ fl ≤ 1048575) : ip6_Lay.first cl fl = 1610612736 + cl * 1048576 + fl := by
  unfold ip6_Lay.first
  rw [bits_join .i64 63 (by decide) wraps63 28 1610612736 (cl * 1048576) (by omega) (by decide) (by omega) (by omega) (by omega) (by omega)]
  rw [bits_join .i64 63 (by decide) wraps63 20 (1610612736 + cl * 1048576) fl (by omega) (by omega) (by omega) (by omega) (by omega) (by omega)]
  rw [wu64 (by omega) (by omega)]
theorem of_bytes (cl fl nx hp fh flo th tlo : Int) (data : ByteArray) (hn : 0 ≤ nx ∧ nx ≤ 255) (hh : 0 ≤ hp ∧ hp ≤ 255) : Bytes (ip6_Lay.of cl fl nx hp fh flo th tlo data) := by
  unfold ip6_Lay.of ip6_Lay.head ip6_Lay.ends
  have h2 : Bytes [nx, hp] := by
    intro x hx
    simp only [List.mem_cons, List.not_mem_nil, or_false] at hx
    omega
  have b := fun n w => (be_bytes n w : Bytes (be n w))
  exact Bytes.append (Bytes.append (Bytes.append (Bytes.append (b _ _) (b _ _)) h2) (Bytes.append (Bytes.append (Bytes.append (b _ _) (b _ _)) (b _ _)) (b _ _))) (MBytes.range _)
theorem of_length (cl fl nx hp fh flo th tlo : Int) (data : ByteArray) : (ip6_Lay.of cl fl nx hp fh flo th tlo data).length = 40 + data.size := by
  unfold ip6_Lay.of ip6_Lay.head ip6_Lay.ends
  simp only [List.length_append, be_length, bytesOf_length, List.length_cons, List.length_nil]
/-- The number at a place. -/
def at_ (l : List Int) (i w : Nat) : Int := num ((l.drop i).take w)
theorem num_ev {l : List Int} (hb : Bytes l) {w : Nat} (hw : w ≤ 8) (hl : w ≤ l.length) (hl2 : l.length ≤ 140737488355200) : Ev (fun k => ip6_Take.num k l (w : Int)) (num (l.take w)) := by
  unfold ip6_Take.num
  have h := get_ev (l := l) (a := 0) (w := (w : Int)) hb hl2 (by omega) (by omega)
  have e : get l 0 (w : Int) = (num (l.take w), true) := by
    unfold get
    rw [if_pos (by unfold fits; omega)]
    unfold slice_
    simp
  rw [e] at h
  exact Ev.bind h (ev_eq fun _ => if_pos rfl)
theorem at_range {l : List Int} (hb : Bytes l) (i w : Nat) : 0 ≤ at_ l i w ∧ at_ l i w < 256 ^ w := by
  unfold at_
  have h := num_range (l := (l.drop i).take w) ((hb.drop _).take _)
  have hl : ((l.drop i).take w).length ≤ w := by rw [List.length_take]; omega
  refine ⟨h.1, Int.lt_of_lt_of_le h.2 ?_⟩
  generalize ((l.drop i).take w).length = m at hl
  obtain ⟨d, rfl⟩ : ∃ d, w = m + d := ⟨w - m, by omega⟩
  rw [Int.pow_add]
  have h1 := pow_pos m
  have h2 := pow_pos d
  have : (256 : Int) ^ m * 1 ≤ 256 ^ m * 256 ^ d := Int.mul_le_mul_of_nonneg_left (by omega) (by omega)
  omega
/-- What ip6.Take comes to. -/
def takeR (s : ByteArray) : Int × Int × Int × Int × Bool × Int × Int × Bool × Int × Int × ByteArray × Int :=
  if (s.size : Int) < 40 then ip6_Take.no 61 else if ¬ bt s 0 / 16 = 6 then ip6_Take.no 60 else if (s.size : Int) - 40 < at_ (bytesOf s) 4 2 then ip6_Take.no 61 else
  (at_ (bytesOf s) 0 4 / 1048576 % 256, at_ (bytesOf s) 0 4 % 1048576, at_ (bytesOf s) 6 1, at_ (bytesOf s) 7 1, true, at_ (bytesOf s) 8 8, at_ (bytesOf s) 16 8, true, at_ (bytesOf s) 24 8, at_ (bytesOf s) 32 8, s.extract 40 (40 + at_ (bytesOf s) 4 2).toNat, 0)
theorem take_ev (s : ByteArray) (hs : s.size ≤ 140737488351232) : Ev (fun k => ip6_Take.f k s) (takeR s) := by
  unfold ip6_Take.f takeR
  by_cases h40 : (s.size : Int) < 40
  · rw [if_pos h40]; exact ev_pos h40 (ev_eq fun _ => rfl)
  rw [if_neg h40]
  refine ev_neg h40 (ev_neg (by omega) ?_)
  by_cases h6 : ¬ bt s 0 / 16 = 6
  · rw [if_pos h6]; exact ev_pos h6 (ev_eq fun _ => rfl)
  rw [if_neg h6]
  refine ev_neg h6 ?_
  have hb := MBytes.range s
  have hl := bytesOf_length s
  have hx : bytesOf (s.extract 0 40) = (bytesOf s).take 40 := by rw [MBytes.extract]; simp
  rw [hx]
  generalize hL : bytesOf s = L at *
  have nev : ∀ (i w : Nat), w ≤ 8 → i + w ≤ 40 → Ev (fun k => ip6_Take.num k ((L.take 40).drop i) (w : Int)) (at_ L i w) := by
    intro i w hw hi
    have h := num_ev (l := (L.take 40).drop i) (Bytes.drop (Bytes.take hb _) _) hw (by rw [List.length_drop, List.length_take]; omega) (by rw [List.length_drop, List.length_take]; omega)
    have e : ((L.take 40).drop i).take w = (L.drop i).take w := by
      rw [List.drop_take, List.take_take, Nat.min_eq_left (by omega)]
    rw [e] at h
    exact h
  have r0 := at_range hb 0 4; have r4 := at_range hb 4 2; have r6 := at_range hb 6 1; have r7 := at_range hb 7 1
  have h0 := nev 0 4 (by omega) (by omega)
  rw [List.drop_zero] at h0
  refine Ev.bind h0 (Ev.bind (nev 4 2 (by omega) (by omega)) (ev_neg (by omega) ?_))
  by_cases hn : (s.size : Int) - 40 < at_ L 4 2
  · rw [if_pos hn]; exact ev_pos hn (ev_eq fun _ => rfl)
  rw [if_neg hn]
  refine ev_neg hn (Ev.bind (nev 6 1 (by omega) (by omega)) (Ev.bind (nev 7 1 (by omega) (by omega)) (ev_neg (by omega) (Ev.bind (nev 8 8 (by omega) (by omega)) (Ev.bind (nev 16 8 (by omega) (by omega)) (Ev.bind (nev 24 8 (by omega) (by omega)) (Ev.bind (nev 32 8 (by omega) (by omega)) (ev_eq fun _ => ?_))))))))
  have e1 := bits_mask .i64 63 (by decide) wraps63 8 (by decide) (at_ L 0 4 / 1048576) (by omega) (by omega)
  have e2 := bits_mask .i64 63 (by decide) wraps63 20 (by decide) (at_ L 0 4) (by omega) (by omega)
  rw [show ((2 : Int) ^ 8 - 1) = 255 by decide, show ((2 : Int) ^ 8) = 256 by decide] at e1
  rw [show ((2 : Int) ^ 20 - 1) = 1048575 by decide, show ((2 : Int) ^ 20) = 1048576 by decide] at e2
  rw [e1, e2]
def may (cl fl nx hp : Int) (s1 s2 : Bool) : Prop := (0 ≤ cl ∧ cl ≤ 255) ∧ (0 ≤ nx ∧ nx ≤ 255) ∧ (0 ≤ hp ∧ hp ≤ 255) ∧ (0 ≤ fl ∧ fl ≤ 1048575) ∧ s1 = true ∧ s2 = true
instance (cl fl nx hp : Int) (s1 s2 : Bool) : Decidable (may cl fl nx hp s1 s2) := by unfold may; infer_instance
def layR (cl fl nx hp : Int) (s1 : Bool) (fh flo : Int) (s2 : Bool) (th tlo : Int) (data : ByteArray) : ByteArray × Int :=
  if may cl fl nx hp s1 s2 then (if 65535 < (data.size : Int) then (⟨#[]⟩, 62) else (strOfNums (ip6_Lay.of cl fl nx hp fh flo th tlo data), 0)) else (⟨#[]⟩, 60)
theorem lay_eq (cl fl nx hp : Int) (s1 : Bool) (fh flo : Int) (s2 : Bool) (th tlo : Int) (data : ByteArray) : ip6_Lay.f cl fl nx hp s1 fh flo s2 th tlo data = some (layR cl fl nx hp s1 fh flo s2 th tlo data) := by
  unfold ip6_Lay.f layR
  by_cases hm : may cl fl nx hp s1 s2
  · rw [if_pos (show _ ∧ _ from hm), if_pos hm]
    split <;> rfl
  · rw [if_neg (show ¬ (_ ∧ _) from hm), if_neg hm]
theorem no_neg (e : Int) : (ip6_Take.no e).2.2.2.2.2.2.2.2.2.2.2 = e := rfl
/-- What ip6.Hop comes to. -/
def hopR (s : ByteArray) : ByteArray × Int :=
  if ¬ (takeR s).2.2.2.2.2.2.2.2.2.2.2 = 0 then (⟨#[]⟩, (takeR s).2.2.2.2.2.2.2.2.2.2.2) else if (takeR s).2.2.2.1 < 2 then (⟨#[]⟩, 63) else (ip6_Hop.of s (40 + (takeR s).2.2.2.2.2.2.2.2.2.2.1.size), 0)
/-- A packet that is taken up: what it is, and what holds of it. -/
theorem take_ok {s : ByteArray} (h : (takeR s).2.2.2.2.2.2.2.2.2.2.2 = 0) : 40 ≤ s.size ∧ bt s 0 / 16 = 6 ∧ at_ (bytesOf s) 4 2 ≤ (s.size : Int) - 40 ∧
    takeR s = (at_ (bytesOf s) 0 4 / 1048576 % 256, at_ (bytesOf s) 0 4 % 1048576, at_ (bytesOf s) 6 1, at_ (bytesOf s) 7 1, true, at_ (bytesOf s) 8 8, at_ (bytesOf s) 16 8, true, at_ (bytesOf s) 24 8, at_ (bytesOf s) 32 8, s.extract 40 (40 + at_ (bytesOf s) 4 2).toNat, 0) := by
  unfold takeR at h ⊢
  by_cases h40 : (s.size : Int) < 40
  · rw [if_pos h40] at h; cases h
  rw [if_neg h40] at h ⊢
  by_cases h6 : ¬ bt s 0 / 16 = 6
  · rw [if_pos h6] at h; cases h
  rw [if_neg h6] at h ⊢
  by_cases hn : (s.size : Int) - 40 < at_ (bytesOf s) 4 2
  · rw [if_pos hn] at h; cases h
  rw [if_neg hn]
  exact ⟨by omega, by omega, by omega, rfl⟩
theorem take_bad {s : ByteArray} (h : ¬ (takeR s).2.2.2.2.2.2.2.2.2.2.2 = 0) : takeR s = ip6_Take.no (takeR s).2.2.2.2.2.2.2.2.2.2.2 := by
  unfold takeR at h ⊢
  by_cases h40 : (s.size : Int) < 40
  · rw [if_pos h40]; rfl
  rw [if_neg h40] at h ⊢
  by_cases h6 : ¬ bt s 0 / 16 = 6
  · rw [if_pos h6]; rfl
  rw [if_neg h6] at h ⊢
  by_cases hn : (s.size : Int) - 40 < at_ (bytesOf s) 4 2
  · rw [if_pos hn]; rfl
  rw [if_neg hn] at h
  exact absurd rfl h
theorem data_size {s : ByteArray} (h40 : 40 ≤ s.size) (hn : at_ (bytesOf s) 4 2 ≤ (s.size : Int) - 40) : ((s.extract 40 (40 + at_ (bytesOf s) 4 2).toNat).size : Int) = at_ (bytesOf s) 4 2 := by
  have r := at_range (MBytes.range s) 4 2
  rw [← bytesOf_length, MBytes.extract, List.length_take, List.length_drop, bytesOf_length]
  omega
theorem take_add (l : List Int) (i w : Nat) : l.take (i + w) = l.take i ++ (l.drop i).take w := by
  rw [List.take_add]
theorem be_at {l : List Int} (hb : Bytes l) {i w : Nat} (h : i + w ≤ l.length) : be (at_ l i w) w = (l.drop i).take w := by
  have h1 := num_eq_be (l := (l.drop i).take w) ((hb.drop _).take _)
  rw [show ((l.drop i).take w).length = w by rw [List.length_take, List.length_drop]; omega] at h1
  exact h1
theorem one_at {l : List Int} (hb : Bytes l) {i : Nat} (h : i + 1 ≤ l.length) : [at_ l i 1] = (l.drop i).take 1 := by
  have h1 := be_at hb (w := 1) h
  have r := at_range hb i 1
  rw [← h1]
  simp only [be, Int.pow_zero, Int.ediv_one]
  rw [show at_ l i 1 % 256 = at_ l i 1 by omega]
theorem first_top (s : ByteArray) (h : 4 ≤ s.size) : at_ (bytesOf s) 0 4 / 268435456 = bt s 0 / 16 := by
  have hb := MBytes.range s
  have hl := bytesOf_length s
  rw [← rd_bytesOf]
  unfold at_
  rw [List.drop_zero]
  generalize bytesOf s = l at *
  match l, hl with
  | a :: m, hl =>
    have hm : (m.take 3).length = 3 := by rw [List.length_take]; simp at hl; omega
    have hr := num_range (l := m.take 3) (fun x hx => hb x (List.mem_cons_of_mem _ (List.mem_of_mem_take hx)))
    rw [hm] at hr
    have ha := hb a (List.mem_cons_self ..)
    rw [List.take_succ_cons, num_cons, hm]
    simp only [rd]
    simp
    omega
  | [], hl => simp at hl; omega
/-- A packet that is taken up is laid as its bytes. -/
theorem relaid {s : ByteArray} (h40 : 40 ≤ s.size) (h6 : bt s 0 / 16 = 6) (hn : at_ (bytesOf s) 4 2 ≤ (s.size : Int) - 40) :
    ip6_Lay.of (at_ (bytesOf s) 0 4 / 1048576 % 256) (at_ (bytesOf s) 0 4 % 1048576) (at_ (bytesOf s) 6 1) (at_ (bytesOf s) 7 1) (at_ (bytesOf s) 8 8) (at_ (bytesOf s) 16 8) (at_ (bytesOf s) 24 8) (at_ (bytesOf s) 32 8) (s.extract 40 (40 + at_ (bytesOf s) 4 2).toNat) = (bytesOf s).take (40 + at_ (bytesOf s) 4 2).toNat := by
  have hb := MBytes.range s
  have hl := bytesOf_length s
  have ht := first_top s (by omega)
  have hd := data_size h40 hn
  have r0 := at_range hb 0 4
  have r4 := at_range hb 4 2
  have e0 := first_eq (cl := at_ (bytesOf s) 0 4 / 1048576 % 256) (fl := at_ (bytesOf s) 0 4 % 1048576) (by omega) (by omega)
  rw [show 1610612736 + at_ (bytesOf s) 0 4 / 1048576 % 256 * 1048576 + at_ (bytesOf s) 0 4 % 1048576 = at_ (bytesOf s) 0 4 by omega] at e0
  unfold ip6_Lay.of ip6_Lay.head ip6_Lay.ends
  rw [e0, hd, MBytes.extract, show (40 + at_ (bytesOf s) 4 2).toNat - 40 = (at_ (bytesOf s) 4 2).toNat by omega]
  have hN : (40 + at_ (bytesOf s) 4 2).toNat = 40 + (at_ (bytesOf s) 4 2).toNat := by omega
  rw [hN]
  generalize (at_ (bytesOf s) 4 2).toNat = n
  generalize bytesOf s = l at *
  rw [be_at hb (by omega), be_at hb (by omega), be_at hb (by omega), be_at hb (by omega), be_at hb (by omega), be_at hb (by omega), List.drop_zero]
  rw [show [at_ l 6 1, at_ l 7 1] = [at_ l 6 1] ++ [at_ l 7 1] from rfl, one_at hb (by omega), one_at hb (by omega)]
  rw [take_add l 40 n, take_add l 32 8, take_add l 24 8, take_add l 16 8, take_add l 8 8, take_add l 7 1, take_add l 6 1, take_add l 4 2]
  simp only [List.append_assoc]
theorem hops_at {s : ByteArray} (h : 8 ≤ s.size) : at_ (bytesOf s) 7 1 = bt s 7 := by
  have hb := MBytes.range s
  have hl := bytesOf_length s
  rw [← rd_bytesOf]
  generalize bytesOf s = l at *
  unfold at_
  have : (l.drop 7).take 1 = [l[7]] := by
    rw [List.drop_eq_getElem_cons (show 7 < l.length by omega)]; rfl
  rw [this]
  simp [num, rd, List.getElem?_eq_getElem (show 7 < l.length by omega)]
/-- One hop less, in the bytes. -/
theorem of_set (cl fl nx hp fh flo th tlo : Int) (data : ByteArray) (v : Int) : (ip6_Lay.of cl fl nx hp fh flo th tlo data).set 7 v = ip6_Lay.of cl fl nx v fh flo th tlo data := by
  unfold ip6_Lay.of ip6_Lay.head
  rfl
theorem hop_of {s : ByteArray} (h40 : 40 ≤ s.size) (h6 : bt s 0 / 16 = 6) (hn : at_ (bytesOf s) 4 2 ≤ (s.size : Int) - 40) (h2 : ¬ at_ (bytesOf s) 7 1 < 2) :
    ip6_Hop.of s (40 + (s.extract 40 (40 + at_ (bytesOf s) 4 2).toNat).size) =
    strOfNums (ip6_Lay.of (at_ (bytesOf s) 0 4 / 1048576 % 256) (at_ (bytesOf s) 0 4 % 1048576) (at_ (bytesOf s) 6 1) (at_ (bytesOf s) 7 1 - 1) (at_ (bytesOf s) 8 8) (at_ (bytesOf s) 16 8) (at_ (bytesOf s) 24 8) (at_ (bytesOf s) 32 8) (s.extract 40 (40 + at_ (bytesOf s) 4 2).toNat)) := by
  have hd := data_size h40 hn
  have r4 := at_range (MBytes.range s) 4 2
  have r7 := at_range (MBytes.range s) 7 1
  have h7 := hops_at (s := s) (by omega)
  unfold ip6_Hop.of
  rw [MBytes.extract, List.drop_zero, Nat.sub_zero, show 40 + (s.extract 40 (40 + at_ (bytesOf s) 4 2).toNat).size = (40 + at_ (bytesOf s) 4 2).toNat by omega, ← relaid h40 h6 hn, of_set, ← h7, show (at_ (bytesOf s) 7 1 - 1) % 256 = at_ (bytesOf s) 7 1 - 1 by omega]
theorem hop_ev (s : ByteArray) (hs : s.size ≤ 140737488351232) : Ev (fun k => ip6_Hop.f k s) (hopR s) := by
  unfold ip6_Hop.f
  refine Ev.bind (take_ev s hs) ?_
  by_cases h0 : ¬ (takeR s).2.2.2.2.2.2.2.2.2.2.2 = 0
  · have e : hopR s = (⟨#[]⟩, (takeR s).2.2.2.2.2.2.2.2.2.2.2) := by unfold hopR; rw [if_pos h0]
    rw [e]; exact ev_pos h0 (ev_eq fun _ => rfl)
  obtain ⟨h40, _, hn, ht⟩ := take_ok (by simpa using h0)
  have hd := data_size h40 hn
  refine ev_neg h0 ?_
  by_cases h2 : (takeR s).2.2.2.1 < 2
  · have e : hopR s = (⟨#[]⟩, 63) := by unfold hopR; rw [if_neg h0, if_pos h2]
    rw [e]; exact ev_pos h2 (ev_eq fun _ => rfl)
  have e : hopR s = (ip6_Hop.of s (40 + (takeR s).2.2.2.2.2.2.2.2.2.2.1.size), 0) := by unfold hopR; rw [if_neg h0, if_neg h2]
  rw [e]
  refine ev_neg h2 (ev_pos ?_ (ev_eq fun _ => rfl))
  rw [ht]
  simp only
  omega
theorem awake_ev : Ev (fun k => crosswaylaw07_awake.f k) true := Ev.of (fun k => crosswaylaw07_awake.mono k) (k := 60) (by decide +kernel)
end Go.Proofs.Ytfkdmdacicahcaa.Pure
