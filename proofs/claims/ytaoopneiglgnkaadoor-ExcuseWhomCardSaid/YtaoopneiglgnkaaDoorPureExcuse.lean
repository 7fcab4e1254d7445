/-
  What the functions of layer 20 come to. No program in sight but their Lean functions. Conditions: those of each theorem.
-/
import Derived.Test.YtaoopneiglgnkaaDoorPBasex12
import Derived.Test.YtaoopneiglgnkaaDoorPureFourG4
import Derived.Test.YtaoopneiglgnkaaDoorPureSixG6
import Derived.Test.YtaoopneiglgnkaaDoorPureIcmpG8
set_option linter.unusedVariables false
set_option linter.unusedSectionVars false
set_option linter.unusedSimpArgs false
namespace Go.Proofs.YtaoopneiglgnkaaDoor.Pure
open Go.RowKit Go.Proofs.YtaoopneiglgnkaaDoor.PBase Go.Proofs.YtaoopneiglgnkaaDoorW.PrintWords Go.Proofs.YtaoopneiglgnkaaDoorW.PrintLast Go.Proofs.YtaoopneiglgnkaaDoorW.PrintMore Go.Proofs.YtaoopneiglgnkaaDoor.MTally Go.Proofs.YtaoopneiglgnkaaDoor.MBe
/-! Small steps for what printed functions come to. -/
theorem w64 {n : Int} (h0 : -9223372036854775808 ≤ n) (h1 : n ≤ 9223372036854775807) : wrap64 n = n := by unfold wrap64; omega
theorem wu64 {n : Int} (h0 : 0 ≤ n) (h1 : n < 18446744073709551616) : IntKind.u64.wrap n = n := by
  simp only [IntKind.wrap, IntKind.signed, IntKind.bits, Bool.false_and, Bool.false_eq_true, if_false]; omega
theorem wu64' (n : Int) : IntKind.u64.wrap n = n % 18446744073709551616 := by
  simp only [IntKind.wrap, IntKind.signed, IntKind.bits, Bool.false_and, Bool.false_eq_true, if_false]; rfl
theorem wu32 {n : Int} (h0 : 0 ≤ n) (h1 : n < 4294967296) : IntKind.u32.wrap n = n := by
  simp only [IntKind.wrap, IntKind.signed, IntKind.bits, Bool.false_and, Bool.false_eq_true, if_false]; omega
theorem wu16 {n : Int} (h0 : 0 ≤ n) (h1 : n < 65536) : IntKind.u16.wrap n = n := by
  simp only [IntKind.wrap, IntKind.signed, IntKind.bits, Bool.false_and, Bool.false_eq_true, if_false]; omega
theorem wu8 {n : Int} (h0 : 0 ≤ n) (h1 : n < 256) : IntKind.u8.wrap n = n := by
  simp only [IntKind.wrap, IntKind.signed, IntKind.bits, Bool.false_and, Bool.false_eq_true, if_false]; omega
theorem ev_pos {α : Type} {c : Prop} [Decidable c] {f g : Nat → Option α} {r : α} (hc : c) (h : Ev f r) : Ev (fun k => if c then f k else g k) r := by
  simp only [if_pos hc]; exact h
theorem ev_neg {α : Type} {c : Prop} [Decidable c] {f g : Nat → Option α} {r : α} (hc : ¬ c) (h : Ev g r) : Ev (fun k => if c then f k else g k) r := by
  simp only [if_neg hc]; exact h
theorem ev_eq {α : Type} {f : Nat → Option α} {r : α} (h : ∀ k, f k = some r) : Ev f r := ⟨0, fun k _ => h k⟩
theorem ev_bind {α β : Type} {o : Option α} {f : Nat → α → Option β} {a : α} {r : β} (h : o = some a) (k : Ev (fun n => f n a) r) : Ev (fun n => o.bind (f n)) r := by
  subst h; exact k
theorem rd_at {xs : List Int} {i : Nat} (h : i < xs.length) : rd xs (i : Int) = xs[i] := by
  simp [rd, List.getElem?_eq_getElem h]
theorem byte_at {xs : List Int} (hb : Bytes xs) {i : Nat} (h : i < xs.length) : 0 ≤ xs[i] ∧ xs[i] ≤ 255 := hb _ (List.getElem_mem h)
theorem byte_of_wf {a : Int} (h : (Lit.int .u8 a).wf = true) : 0 ≤ a ∧ a ≤ 255 := by
  have := h
  simp [Lit.wf, IntKind.min, IntKind.max, IntKind.signed, IntKind.bits] at this
  exact this
theorem i64_of_wf {a : Int} (h : (Lit.int .i64 a).wf = true) : -9223372036854775808 ≤ a ∧ a ≤ 9223372036854775807 := by
  have := h
  simp [Lit.wf, IntKind.min, IntKind.max, IntKind.signed, IntKind.bits] at this
  exact this
theorem u64_of_wf {a : Int} (h : (Lit.int .u64 a).wf = true) : 0 ≤ a ∧ a ≤ 18446744073709551615 := by
  have := h
  simp [Lit.wf, IntKind.min, IntKind.max, IntKind.signed, IntKind.bits] at this
  exact this
theorem u32_of_wf {a : Int} (h : (Lit.int .u32 a).wf = true) : 0 ≤ a ∧ a ≤ 4294967295 := by
  have := h
  simp [Lit.wf, IntKind.min, IntKind.max, IntKind.signed, IntKind.bits] at this
  exact this
theorem u16_of_wf {a : Int} (h : (Lit.int .u16 a).wf = true) : 0 ≤ a ∧ a ≤ 65535 := by
  have := h
  simp [Lit.wf, IntKind.min, IntKind.max, IntKind.signed, IntKind.bits] at this
  exact this
theorem bytes_of_wf {l : List Int} (h : ∀ x ∈ l, (Lit.int .u8 x).wf = true) : Bytes l := fun x hx => byte_of_wf (h x hx)
/-! Addresses: valid, class, bytes. -/
def validB (t : Bool) (h l : Int) : Bool := t || (h == 0 && decide (l < 4294967296))
def cls (t : Bool) (h l : Int) : Int :=
  if t = true then (if h = 0 ∧ l = 0 then 0 else if h = 0 ∧ l = 1 then 1 else if h / 18014398509481984 = 1018 then 2 else if h / 72057594037927936 = 255 then 3 else 5)
  else if ¬ (h = 0 ∧ l < 4294967296) then -1 else if l = 0 then 0 else if l / 16777216 = 127 then 1 else if l / 65536 = 43518 then 2 else if l = 4294967295 then 4 else if l / 268435456 = 14 then 3 else 5
theorem valid_eq (t : Bool) (h l : Int) : addr_Valid.f t h l = some (validB t h l) := by
  unfold addr_Valid.f validB
  cases t
  · by_cases e : h = 0 <;> simp [e]
  · rfl
theorem class_eq (t : Bool) (h l : Int) : addr_Class.f t h l = some (cls t h l) := by
  unfold addr_Class.f
  rw [valid_eq, Option.bind_some]
  unfold validB cls
  cases t
  · by_cases e : h = 0 ∧ l < 4294967296
    · obtain ⟨rfl, e2⟩ := e
      simp only [Bool.false_or, beq_self_eq_true, Bool.true_and, decide_eq_true e2, if_true, Bool.false_eq_true, if_false, e2, and_self, not_true_eq_false]
      (repeat' split) <;> first | rfl | (exfalso; omega) | contradiction
    · have : (h == 0 && decide (l < 4294967296)) = false := by
        cases h1 : (h == 0 && decide (l < 4294967296))
        · rfl
        · exfalso; apply e; simpa using h1
      simp only [Bool.false_or, this, Bool.false_eq_true, if_false, e, not_false_eq_true, if_true]
  · simp only [Bool.true_or, if_true]
    unfold addr_classSix.f
    by_cases h0 : h = 0
    · subst h0
      by_cases l0 : l = 0
      · subst l0; rfl
      · by_cases l1 : l = 1
        · subst l1; rfl
        · simp [l0, l1]
    · by_cases h2 : h / 18014398509481984 = 1018
      · simp [h0, h2]
      · by_cases h3 : h / 72057594037927936 = 255
        · simp [h0, h2, h3]
        · simp [h0, h2, h3]
/-- May errors be told of packets between two? -/
def endsB (b1 : Bool) (h1 l1 : Int) (b2 : Bool) (h2 l2 : Int) : Bool := (decide (cls b1 h1 l1 = 5) || decide (cls b1 h1 l1 = 2)) && (!decide (cls b2 h2 l2 = 3) && !decide (cls b2 h2 l2 = 4))
theorem ends_eq (b1 : Bool) (h1 l1 : Int) (b2 : Bool) (h2 l2 : Int) : excuse_ends.f b1 h1 l1 b2 h2 l2 = some (endsB b1 h1 l1 b2 h2 l2) := by
  unfold excuse_ends.f endsB
  rw [class_eq, class_eq]
  simp only [Option.bind_some]
  generalize cls b1 h1 l1 = c
  generalize cls b2 h2 l2 = d
  by_cases c5 : c = 5
  · rw [if_pos c5]
    by_cases d3 : d = 3
    · rw [if_pos d3]; simp [d3]
    · rw [if_neg d3]
      by_cases d4 : d = 4
      · subst d4; simp [c5]
      · rw [bne_iff_ne.2 d4]; simp [c5, d3, d4]
  · rw [if_neg c5]
    by_cases c2 : c = 2
    · rw [if_pos c2]
      by_cases d3 : d = 3
      · rw [if_pos d3]; simp [d3]
      · rw [if_neg d3]
        by_cases d4 : d = 4
        · subst d4; simp [c2]
        · rw [bne_iff_ne.2 d4]; simp [c2, d3, d4]
    · rw [if_neg c2]; simp [c5, c2]
theorem toList_nil (s : ByteArray) : s.toList = ([] : List UInt8) ↔ s.size = 0 := by
  rw [ByteArray.toList_eq, ← data_length]
  exact List.length_eq_zero_iff.symm
def sixB (s : ByteArray) : Bool := if s.size = 0 then false else bt s 0 / 16 == 6
theorem isSix_eq (s : ByteArray) : excuse_isSix.f s = some (sixB s) := by
  unfold excuse_isSix.f sixB
  by_cases h : s.size = 0
  · rw [if_pos ((toList_nil s).2 h), if_pos h]
  · rw [if_neg (fun q => h ((toList_nil s).1 q)), if_pos (by omega), if_neg h]
/-- Does it begin as an error? -/
def errK (six : Bool) (x : Int) : Bool := if six = true then decide (x < 128) else decide (x = 3 ∨ x = 4 ∨ x = 5 ∨ x = 11 ∨ x = 12)
def errB (six : Bool) (s : ByteArray) : Bool := if s.size = 0 then true else errK six (bt s 0)
theorem isErr_eq {six : Bool} {x : Int} (h : 0 ≤ x) (a b : Int) (s : ByteArray) : icmp_IsError.f six x a b s = some (errK six x) := by
  unfold icmp_IsError.f errK
  cases six
  · simp only [Bool.false_eq_true, if_false]
    by_cases h3 : x = 3
    · rw [if_pos h3]; simp [h3]
    rw [if_neg h3]
    by_cases h4 : x = 4
    · rw [if_pos h4]; simp [h4]
    rw [if_neg h4]
    by_cases h5 : x = 5
    · rw [if_pos h5]; simp [h5]
    rw [if_neg h5]
    by_cases h6 : x = 11
    · rw [if_pos h6]; simp [h6]
    rw [if_neg h6]
    by_cases h7 : x = 12
    · rw [if_pos h7]; simp [h7]
    rw [if_neg h7]; simp [h3, h4, h5, h6, h7]
  · rw [if_pos rfl, if_pos rfl, if_pos h]
theorem isError_eq (six : Bool) (s : ByteArray) : excuse_isError.f six s = some (errB six s) := by
  unfold excuse_isError.f errB
  by_cases h : s.size = 0
  · rw [if_pos ((toList_nil s).2 h), if_pos h]
  · have b := bt_range s 0
    rw [if_neg (fun q => h ((toList_nil s).1 q)), if_pos (by omega), if_neg h, w64 (by omega) (by omega), isErr_eq b.1]; rfl
/-- What is told of a packet without Six: of what was taken up of it. -/
def mayFourT (p : Int × Int × Bool × Bool × Int × Int × Int × Bool × Int × Int × Bool × Int × Int × ByteArray × ByteArray × Int) : Bool :=
  decide (p.2.2.2.2.2.2.2.2.2.2.2.2.2.2.2 = 0) && (endsB p.2.2.2.2.2.2.2.1 p.2.2.2.2.2.2.2.2.1 p.2.2.2.2.2.2.2.2.2.1 p.2.2.2.2.2.2.2.2.2.2.1 p.2.2.2.2.2.2.2.2.2.2.2.1 p.2.2.2.2.2.2.2.2.2.2.2.2.1 && (decide (p.2.2.2.2.1 = 0) && !(decide (p.2.2.2.2.2.2.1 = 1) && errB false p.2.2.2.2.2.2.2.2.2.2.2.2.2.2.1)))
theorem mayFour_ev (s : ByteArray) : Ev (fun k => excuse_mayFour.f k s) (mayFourT (Pure4.takeR s)) := by
  unfold excuse_mayFour.f mayFourT
  refine Ev.bind (Pure4.take_ev s) ?_
  generalize Pure4.takeR s = p
  by_cases h0 : p.2.2.2.2.2.2.2.2.2.2.2.2.2.2.2 = 0
  · refine ev_pos h0 (ev_bind (ends_eq ..) ?_)
    rw [decide_eq_true h0, Bool.true_and]
    cases he : endsB p.2.2.2.2.2.2.2.1 p.2.2.2.2.2.2.2.2.1 p.2.2.2.2.2.2.2.2.2.1 p.2.2.2.2.2.2.2.2.2.2.1 p.2.2.2.2.2.2.2.2.2.2.2.1 p.2.2.2.2.2.2.2.2.2.2.2.2.1
    · exact ev_neg (by decide) (ev_eq fun _ => rfl)
    · refine ev_pos rfl ?_
      rw [Bool.true_and]
      by_cases h1 : p.2.2.2.2.1 = 0
      · rw [decide_eq_true h1, Bool.true_and]
        refine ev_pos h1 ?_
        by_cases h2 : p.2.2.2.2.2.2.1 = 1
        · rw [decide_eq_true h2, Bool.true_and]
          exact ev_pos h2 (ev_bind (isError_eq ..) (ev_eq fun _ => rfl))
        · rw [decide_eq_false h2]
          exact ev_neg h2 (ev_eq fun _ => rfl)
      · rw [decide_eq_false h1]
        exact ev_neg h1 (ev_eq fun _ => rfl)
  · rw [decide_eq_false h0]
    exact ev_neg h0 (ev_eq fun _ => rfl)
theorem _root_.Go.Proofs.YtaoopneiglgnkaaDoor.Pure6.row_end {d : ByteArray} : ∀ {xs : List S68} {n p last e : Int}, Pure6.Row d n p xs last e → p ≤ (d.size : Int) → e ≤ (d.size : Int)
  | [], _, _, _, _, h, hp => by rw [← h.2]; exact hp
  | x :: xs, _, _, _, _, ⟨_, _, _, _, _, q, h⟩, hp => Pure6.row_end h q
/-- Is it no later piece? -/
def pieceB (d : ByteArray) (x : S68) : Bool := !(x.f0 == 44) || (bt d (x.f1 + 2) == 0 && bt d (x.f1 + 3) / 8 == 0)
def tailB (d : ByteArray) (next at_ : Int) : Bool := !(decide (next = 58) && errB true (d.extract at_.toNat d.size))
theorem maySix_l0 {d : ByteArray} (hd : d.size ≤ 140737488355232) (l : List S68) (hl : l.length ≤ 1000) (nx at_ : Int) (c1 c2 c3 c4 : Int) (c5 : Bool) (c6 c7 : Int) (c8 : Bool) (c9 c10 : Int) (h0 : 0 ≤ at_) (h1 : at_ ≤ (d.size : Int)) :
    ∀ (xs pre : List S68) (n p last e : Int), l = pre ++ xs → Pure6.Row d n p xs last e → 0 ≤ p → Ev (fun k => excuse_maySix.l0 k nx at_ l (l.length : Int) (pre.length : Int) c1 c2 c3 c4 c5 c6 c7 c8 c9 c10 d) (xs.all (pieceB d) && tailB d nx at_)
  | [], pre, n, p, last, e, h, hr, hp => by
    have hz : l.length = pre.length := by rw [h]; simp
    refine Ev.step (fun k => by simp only [excuse_maySix.l0]; rfl) ?_
    refine ev_neg (by omega) ?_
    unfold tailB
    by_cases h58 : nx = 58
    · rw [decide_eq_true h58]
      exact ev_pos h58 (ev_pos h0 (ev_pos h1 (ev_bind (isError_eq ..) (ev_eq fun _ => by simp))))
    · rw [decide_eq_false h58]
      exact ev_neg h58 (ev_eq fun _ => rfl)
  | x :: xs, pre, n, p, last, e, h, hr, hp => by
    have hz : l.length = pre.length + (xs.length + 1) := by rw [h]; simp
    obtain ⟨_, q0, q1, q2, _, q4, hrow⟩ := hr
    have hi := maySix_l0 hd l hl nx at_ c1 c2 c3 c4 c5 c6 c7 c8 c9 c10 h0 h1 xs (pre ++ [x]) _ _ last e (by rw [h]; simp) hrow (by omega)
    have ew : wrap64 ((pre.length : Int) + 1) = ((pre ++ [x]).length : Int) := by rw [w64 (by omega) (by omega)]; simp
    have e2 : wrap64 (x.f1 + 2) = x.f1 + 2 := w64 (by omega) (by omega)
    have e3 : wrap64 (x.f1 + 3) = x.f1 + 3 := w64 (by omega) (by omega)
    refine Ev.step (fun k => by simp only [excuse_maySix.l0]; rfl) ?_
    rw [Pure6.rd41 h, ew, e2, e3]
    clear ew e2 e3
    refine ev_pos (by omega) (ev_pos (by omega) (ev_pos (by omega) ?_))
    rw [List.all_cons]
    unfold pieceB
    by_cases h44 : x.f0 = 44
    · rw [show (x.f0 == 44) = true by simp [h44], Bool.not_true, Bool.false_or]
      refine ev_pos h44 (ev_pos (by omega) (ev_pos (by omega) ?_))
      by_cases b2 : bt d (x.f1 + 2) = 0
      · rw [show (bt d (x.f1 + 2) == 0) = true by simp [b2], Bool.true_and]
        refine ev_pos b2 (ev_pos (by omega) (ev_pos (by omega) ?_))
        by_cases b3 : bt d (x.f1 + 3) / 8 = 0
        · rw [show (bt d (x.f1 + 3) / 8 == 0) = true by simp [b3], Bool.true_and]
          exact ev_pos b3 hi
        · rw [show (bt d (x.f1 + 3) / 8 == 0) = false by simp [b3], Bool.false_and, Bool.false_and]
          exact ev_neg b3 (ev_eq fun _ => rfl)
      · rw [show (bt d (x.f1 + 2) == 0) = false by simp [b2], Bool.false_and, Bool.false_and, Bool.false_and]
        exact ev_neg b2 (ev_eq fun _ => rfl)
    · rw [show (x.f0 == 44) = false by simp [h44], Bool.not_false, Bool.true_or, Bool.true_and]
      exact ev_neg h44 hi
def chainC (next : Int) (d : ByteArray) : List S68 × Int × Int × Int := (ip6_Chain.l d 18 next [] 0).getD ([], 0, 0, 0)
theorem chain_eq (next : Int) {d : ByteArray} (hd : d.size ≤ 281474976710656) : ip6_Chain.f next d = some (chainC next d) := by
  obtain ⟨r, h1, h2⟩ := Pure6.chain_ok next d hd
  rw [h1]; unfold chainC; rw [h2]; rfl
/-- What is told of a packet with Six: of what was taken up of it. -/
def maySixT (p : Int × Int × Int × Int × Bool × Int × Int × Bool × Int × Int × ByteArray × Int) : Bool :=
  decide (p.2.2.2.2.2.2.2.2.2.2.2 = 0) && (decide ((chainC p.2.2.1 p.2.2.2.2.2.2.2.2.2.2.1).2.2.2 = 0) && (endsB p.2.2.2.2.1 p.2.2.2.2.2.1 p.2.2.2.2.2.2.1 p.2.2.2.2.2.2.2.1 p.2.2.2.2.2.2.2.2.1 p.2.2.2.2.2.2.2.2.2.1 &&
    ((chainC p.2.2.1 p.2.2.2.2.2.2.2.2.2.2.1).1.all (pieceB p.2.2.2.2.2.2.2.2.2.2.1) && tailB p.2.2.2.2.2.2.2.2.2.2.1 (chainC p.2.2.1 p.2.2.2.2.2.2.2.2.2.2.1).2.1 (chainC p.2.2.1 p.2.2.2.2.2.2.2.2.2.2.1).2.2.1)))
theorem maySix_t {t : Int × Int × Int × Int × Bool × Int × Int × Bool × Int × Int × ByteArray × Int} {f : Nat → Option (Int × Int × Int × Int × Bool × Int × Int × Bool × Int × Int × ByteArray × Int)} (ht : Ev f t) (hd : t.2.2.2.2.2.2.2.2.2.2.1.size ≤ 140737488355232) (s : ByteArray) (hf : (fun k => ip6_Take.f k s) = f) :
    Ev (fun k => excuse_maySix.f k s) (maySixT t) := by
  subst hf
  unfold excuse_maySix.f
  refine Ev.bind ht ?_
  unfold maySixT
  obtain ⟨p1, p2, nx, p4, p5, p6, p7, p8, p9, p10, d, er⟩ := t
  simp only at hd ⊢
  refine ev_bind (chain_eq nx (by omega)) ?_
  have bad : Ev (fun k => excuse_maySix.j0 k (chainC nx d).1 (chainC nx d).2.1 (chainC nx d).2.2.1 true p1 p2 nx p4 p5 p6 p7 p8 p9 p10 d) false := by
    refine Ev.step (fun k => by simp only [excuse_maySix.j0]; rfl) ?_
    exact ev_pos (by first | exact True.intro | exact rfl) (ev_eq fun _ => rfl)
  by_cases h0 : er = 0
  · rw [decide_eq_true h0, Bool.true_and]
    refine ev_pos h0 ?_
    by_cases h1 : (chainC nx d).2.2.2 = 0
    · rw [decide_eq_true h1, Bool.true_and]
      refine ev_pos h1 (ev_bind (ends_eq ..) ?_)
      cases he : endsB p5 p6 p7 p8 p9 p10
      · rw [Bool.false_and]; exact bad
      · rw [Bool.true_and]
        refine Ev.step (fun k => by simp only [excuse_maySix.j0]; rfl) ?_
        refine ev_neg (by simp) ?_
        obtain ⟨r, _, hr⟩ := Pure6.chain_ok nx d (by omega)
        have hc : chainC nx d = r := by unfold chainC; rw [hr]; rfl
        have hlen := Pure6.chain_sixteen d _ _ _ _ _ (by simp) hr
        rcases Pure6.chain_row d _ _ _ _ _ hr with ⟨e, hne, rfl⟩ | ⟨xs, last, e, rfl, hrow⟩
        · rw [hc] at h1; exact absurd h1 hne
        · rw [hc]
          simp only [List.nil_append] at hlen ⊢
          have hle := hrow.le
          have hes : e ≤ (d.size : Int) := Pure6.row_end hrow (by omega)
          exact maySix_l0 hd xs (by omega) last e p1 p2 nx p4 p5 p6 p7 p8 p9 p10 (by omega) hes xs [] nx 0 last e rfl hrow (by omega)
    · rw [decide_eq_false h1, Bool.false_and]
      exact ev_neg h1 bad
  · rw [decide_eq_false h0, Bool.false_and]
    exact ev_neg h0 bad
theorem _root_.Go.Proofs.YtaoopneiglgnkaaDoor.Pure4.take_sizes {s : ByteArray} (h : (Pure4.takeR s).2.2.2.2.2.2.2.2.2.2.2.2.2.2.2 = 0) : 20 + (Pure4.takeR s).2.2.2.2.2.2.2.2.2.2.2.2.2.1.size + (Pure4.takeR s).2.2.2.2.2.2.2.2.2.2.2.2.2.2.1.size ≤ s.size ∧ 20 + (Pure4.takeR s).2.2.2.2.2.2.2.2.2.2.2.2.2.1.size + (Pure4.takeR s).2.2.2.2.2.2.2.2.2.2.2.2.2.2.1.size ≤ 65535 := by
  unfold Pure4.takeR at h ⊢
  by_cases c0 : ¬ (Pure4.headsR s).2.2 = 0
  · rw [if_pos c0] at h; exact absurd h c0
  have c0' : (Pure4.headsR s).2.2 = 0 := by simpa using c0
  obtain ⟨g1, g2, g3, g4, g5, g6, g7, g8, e⟩ := Pure4.heads_ok c0'
  rw [if_neg c0] at h ⊢
  try rw [e] at h
  try rw [e]
  try dsimp only at h ⊢
  by_cases c1 : ¬ (Pure4.optsR (s.extract 20 (ip4_heads.hd s).toNat)).2 = 0
  · rw [if_pos c1] at h; exact absurd h c1
  rw [if_neg c1]
  have r := Pure4.at_range (MBytes.range s) 2 2
  rw [show (256 : Int) ^ 2 = 65536 by decide] at r
  unfold Pure4.pkt
  simp only
  have z1 : (s.extract 20 (ip4_heads.hd s).toNat).size = (ip4_heads.hd s).toNat - 20 := by rw [← bytesOf_length, MBytes.extract, List.length_take, List.length_drop, bytesOf_length]; omega
  have z2 : (s.extract (ip4_heads.hd s).toNat (Pure4.at_ (bytesOf s) 2 2).toNat).size = (Pure4.at_ (bytesOf s) 2 2).toNat - (ip4_heads.hd s).toNat := by rw [← bytesOf_length, MBytes.extract, List.length_take, List.length_drop, bytesOf_length]; omega
  rw [z1, z2]
  omega
/-- May a packet be told of? -/
def mayR (s : ByteArray) : Bool := if sixB s = true then maySixT (Pure6.takeR s) else mayFourT (Pure4.takeR s)
theorem six_data (s : ByteArray) : (Pure6.takeR s).2.2.2.2.2.2.2.2.2.2.1.size ≤ 65535 := by
  by_cases h : (Pure6.takeR s).2.2.2.2.2.2.2.2.2.2.2 = 0
  · obtain ⟨h1, _, h3, e⟩ := Pure6.take_ok h
    have hz := Pure6.data_size h1 h3
    have r := Pure6.at_range (MBytes.range s) 4 2
    rw [show (256 : Int) ^ 2 = 65536 by decide] at r
    rw [e]
    simp only
    omega
  · rw [Pure6.take_bad h]
    exact Nat.zero_le _
theorem may_ev {s : ByteArray} (hs : s.size ≤ 140737488400000) : Ev (fun k => excuse_May.f k s) (mayR s) := by
  unfold excuse_May.f mayR
  refine ev_bind (isSix_eq s) ?_
  cases sixB s
  · exact ev_neg (by decide) (Ev.bind (mayFour_ev s) (ev_eq fun _ => rfl))
  · exact ev_pos rfl (Ev.bind (maySix_t (Pure6.take_ev s hs) (by have := six_data s; omega) s rfl) (ev_eq fun _ => rfl))
/-- What is quoted of a packet that may be told of, and whom it is told. -/
def quoteR (s : ByteArray) : ByteArray × Bool × Int × Int :=
  if sixB s = true then (s.extract 0 (min (40 + (Pure6.takeR s).2.2.2.2.2.2.2.2.2.2.1.size) 1232), (Pure6.takeR s).2.2.2.2.1, (Pure6.takeR s).2.2.2.2.2.1, (Pure6.takeR s).2.2.2.2.2.2.1)
  else (s.extract 0 (20 + (Pure4.takeR s).2.2.2.2.2.2.2.2.2.2.2.2.2.1.size + min 8 (Pure4.takeR s).2.2.2.2.2.2.2.2.2.2.2.2.2.2.1.size), (Pure4.takeR s).2.2.2.2.2.2.2.1, (Pure4.takeR s).2.2.2.2.2.2.2.2.1, (Pure4.takeR s).2.2.2.2.2.2.2.2.2.1)
def kindR (why : Int) (six : Bool) : Int × Int × Bool := if why < 1 ∨ why > 6 then (0, 0, false) else excuse_Kind.e why six
theorem kind_eq (why : Int) (six : Bool) : excuse_Kind.f why six = some (kindR why six) := by
  unfold excuse_Kind.f kindR
  split <;> rfl
/-- What is told, with a message's number. -/
def tellR (six : Bool) (kind code rest : Int) (data : ByteArray) (b1 : Bool) (h1 l1 : Int) (b2 : Bool) (h2 l2 : Int) : ByteArray × Int :=
  if six = true then Pure6.layR 0 0 58 64 b1 h1 l1 b2 h2 l2 (Pure8.layR six kind code rest data b1 h1 l1 b2 h2 l2).1 else Pure4.layR 0 0 false false 0 64 1 b1 h1 l1 b2 h2 l2 ⟨#[]⟩ (Pure8.layR six kind code rest data b1 h1 l1 b2 h2 l2).1
def U (n : Int) : Prop := 0 ≤ n ∧ n ≤ 18446744073709551615
theorem msg_le (six : Bool) (kind code rest : Int) (data : ByteArray) (b1 : Bool) (h1 l1 : Int) (b2 : Bool) (h2 l2 : Int) : (Pure8.layR six kind code rest data b1 h1 l1 b2 h2 l2).1.size ≤ 8 + data.size := by
  unfold Pure8.layR
  split
  · exact Nat.zero_le _
  · split
    · exact Nat.zero_le _
    · simp only; rw [Pure8.msg_size]; exact Nat.le_refl _
theorem j4_ev {six : Bool} {kind code rest : Int} {data : ByteArray} (hd : data.size ≤ 140737488351232) {b1 : Bool} {h1 l1 : Int} {b2 : Bool} {h2 l2 : Int} (u1 : U h1) (u2 : U l1) (u3 : U h2) (u4 : U l2) :
    Ev (fun k => excuse_Of.j4 k six b1 h1 l1 b2 h2 l2 six kind code rest data) (tellR six kind code rest data b1 h1 l1 b2 h2 l2) := by
  have hm := msg_le six kind code rest data b1 h1 l1 b2 h2 l2
  unfold tellR
  refine Ev.step (fun k => by simp only [excuse_Of.j4]; rfl) ?_
  refine Ev.bind (Pure8.lay_ev u1 u2 u3 u4 six kind code rest data b1 b2) ?_
  cases six
  · rw [if_neg (by decide)]
    exact ev_neg (by decide) (Ev.bind (Pure4.lay_ev 0 0 false false 0 64 1 b1 h1 (src := l1) b2 h2 (dst := l2) ⟨#[]⟩ _ (Nat.zero_le _) (by omega) u2.1 u4.1) (ev_eq fun _ => rfl))
  · rw [if_pos rfl]
    exact ev_pos (by first | exact True.intro | exact rfl) (ev_bind (Pure6.lay_eq ..) (ev_eq fun _ => rfl))
def restR (why : Int) (six : Bool) (rest : Int) : Int := if why = 6 ∧ six = false then wrap64 (rest * 16777216) else if why = 6 then rest else if why = 4 then rest else 0
theorem j3_ev {why rest : Int} {six : Bool} {kind code : Int} {data : ByteArray} (hd : data.size ≤ 140737488351232) {b1 : Bool} {h1 l1 : Int} {b2 : Bool} {h2 l2 : Int} (u1 : U h1) (u2 : U l1) (u3 : U h2) (u4 : U l2) {x : Bool} (hx : x = true ↔ (why = 6 ∧ six = false)) :
    Ev (fun k => excuse_Of.j3 k why rest six x b1 h1 l1 b2 h2 l2 six kind code 0 data) (tellR six kind code (restR why six rest) data b1 h1 l1 b2 h2 l2) := by
  refine Ev.step (fun k => by simp only [excuse_Of.j3]; rfl) ?_
  by_cases h : why = 6 ∧ six = false
  · have e : restR why six rest = wrap64 (rest * 16777216) := by unfold restR; rw [if_pos h]
    rw [e]
    exact ev_pos (hx.2 h) (j4_ev hd u1 u2 u3 u4)
  · refine ev_neg (fun q => h (hx.1 q)) ?_
    by_cases h6 : why = 6
    · have e : restR why six rest = rest := by unfold restR; rw [if_neg h, if_pos h6]
      rw [e]; exact ev_pos h6 (j4_ev hd u1 u2 u3 u4)
    · refine ev_neg h6 ?_
      by_cases h4 : why = 4
      · have e : restR why six rest = rest := by unfold restR; rw [if_neg h, if_neg h6, if_pos h4]
        rw [e]; exact ev_pos h4 (j4_ev hd u1 u2 u3 u4)
      · have e : restR why six rest = 0 := by unfold restR; rw [if_neg h, if_neg h6, if_neg h4]
        rw [e]; exact ev_neg h4 (j4_ev hd u1 u2 u3 u4)
theorem rest_eq {rest most : Int} (h : 0 ≤ rest) : decide (most < rest) = (!decide (0 ≤ rest) || !decide (rest ≤ most)) := by
  rw [decide_eq_true h]
  by_cases q : rest ≤ most
  · rw [decide_eq_true q, decide_eq_false (show ¬ most < rest by omega)]; rfl
  · rw [decide_eq_false q, decide_eq_true (show most < rest by omega)]; rfl
/-- May it be asked so? -/
def argB (why : Int) (six : Bool) (b : Bool) (h l rest : Int) : Bool := (kindR why six).2.2 && (b == six && ((decide (cls b h l = 5) || decide (cls b h l = 2)) && decide (0 ≤ rest ∧ rest ≤ (if why = 6 ∧ six = false then 255 else 65535))))
def ofR (why : Int) (s : ByteArray) (b : Bool) (h l rest : Int) : ByteArray × Int :=
  if argB why (sixB s) b h l rest = false then (⟨#[]⟩, 1) else if mayR s = false then (⟨#[]⟩, 170) else
  tellR (sixB s) (kindR why (sixB s)).1 (kindR why (sixB s)).2.1 (restR why (sixB s) rest) (quoteR s).1 b h l (quoteR s).2.1 (quoteR s).2.2.1 (quoteR s).2.2.2
theorem mn_eq (a b : Nat) : mn (a : Int) (b : Int) = ((min a b : Nat) : Int) := by unfold mn; split <;> omega
theorem quote_ev {s : ByteArray} (hs : s.size ≤ 140737488400000) (hm : mayR s = true) : Ev (fun k => excuse_quote.f k s) (quoteR s) := by
  unfold excuse_quote.f
  refine ev_bind (isSix_eq s) ?_
  unfold mayR at hm
  cases h6 : sixB s
  · rw [h6, if_neg (by decide)] at hm
    have e : quoteR s = (s.extract 0 (20 + (Pure4.takeR s).2.2.2.2.2.2.2.2.2.2.2.2.2.1.size + min 8 (Pure4.takeR s).2.2.2.2.2.2.2.2.2.2.2.2.2.2.1.size), (Pure4.takeR s).2.2.2.2.2.2.2.1, (Pure4.takeR s).2.2.2.2.2.2.2.2.1, (Pure4.takeR s).2.2.2.2.2.2.2.2.2.1) := by unfold quoteR; rw [h6, if_neg (by decide)]
    rw [e]
    have h0 : (Pure4.takeR s).2.2.2.2.2.2.2.2.2.2.2.2.2.2.2 = 0 := by
      unfold mayFourT at hm
      simp only [Bool.and_eq_true, decide_eq_true_eq] at hm
      exact hm.1
    have hz := Pure4.take_sizes h0
    refine ev_neg (by decide) (Ev.bind (Pure4.take_ev s) ?_)
    generalize Pure4.takeR s = t at *
    have e1 : wrap64 (wrap64 (20 + (t.2.2.2.2.2.2.2.2.2.2.2.2.2.1.size : Int)) + mn 8 (t.2.2.2.2.2.2.2.2.2.2.2.2.2.2.1.size : Int)) = ((20 + t.2.2.2.2.2.2.2.2.2.2.2.2.2.1.size + min 8 t.2.2.2.2.2.2.2.2.2.2.2.2.2.2.1.size : Nat) : Int) := by
      rw [show (8 : Int) = ((8 : Nat) : Int) from rfl, mn_eq, w64 (n := 20 + _) (by omega) (by omega), w64 (by omega) (by omega)]; omega
    rw [e1]
    exact ev_pos (by omega) (ev_pos (by omega) (ev_eq fun _ => by rw [Int.toNat_natCast]))
  · rw [h6, if_pos rfl] at hm
    have e : quoteR s = (s.extract 0 (min (40 + (Pure6.takeR s).2.2.2.2.2.2.2.2.2.2.1.size) 1232), (Pure6.takeR s).2.2.2.2.1, (Pure6.takeR s).2.2.2.2.2.1, (Pure6.takeR s).2.2.2.2.2.2.1) := by unfold quoteR; rw [h6, if_pos rfl]
    rw [e]
    have h0 : (Pure6.takeR s).2.2.2.2.2.2.2.2.2.2.2 = 0 := by
      unfold maySixT at hm
      simp only [Bool.and_eq_true, decide_eq_true_eq] at hm
      exact hm.1
    have hd := six_data s
    have hz : 40 + (Pure6.takeR s).2.2.2.2.2.2.2.2.2.2.1.size ≤ s.size := by
      obtain ⟨g1, _, g3, g4⟩ := Pure6.take_ok h0
      have g5 := Pure6.data_size g1 g3
      rw [g4]
      simp only
      omega
    refine ev_pos rfl (Ev.bind (Pure6.take_ev s hs) ?_)
    generalize Pure6.takeR s = t at *
    have e1 : mn (wrap64 (40 + (t.2.2.2.2.2.2.2.2.2.2.1.size : Int))) 1232 = ((min (40 + t.2.2.2.2.2.2.2.2.2.2.1.size) 1232 : Nat) : Int) := by
      rw [w64 (by omega) (by omega), show (40 + (t.2.2.2.2.2.2.2.2.2.2.1.size : Int)) = ((40 + t.2.2.2.2.2.2.2.2.2.2.1.size : Nat) : Int) by omega, show (1232 : Int) = ((1232 : Nat) : Int) from rfl, mn_eq]
    rw [e1]
    exact ev_pos (by omega) (ev_pos (by omega) (ev_eq fun _ => by rw [Int.toNat_natCast]))
theorem _root_.Go.Proofs.YtaoopneiglgnkaaDoor.Pure4.take_cases (s : ByteArray) : (¬ (Pure4.takeR s).2.2.2.2.2.2.2.2.2.2.2.2.2.2.2 = 0) ∨ (Pure4.takeR s = Pure4.pkt s ∧ (Pure4.headsR s).2.2 = 0 ∧ (Pure4.optsR (s.extract 20 (ip4_heads.hd s).toNat)).2 = 0) := by
  unfold Pure4.takeR
  by_cases c0 : ¬ (Pure4.headsR s).2.2 = 0
  · rw [if_pos c0]; exact .inl c0
  rw [if_neg c0]
  have c0' : (Pure4.headsR s).2.2 = 0 := by simpa using c0
  rw [(Pure4.heads_ok c0').2.2.2.2.2.2.2.2]
  dsimp only
  by_cases c1 : ¬ (Pure4.optsR (s.extract 20 (ip4_heads.hd s).toNat)).2 = 0
  · rw [if_pos c1]; exact .inl c1
  · rw [if_neg c1]; exact .inr ⟨rfl, rfl, by simpa using c1⟩
theorem quote_U (s : ByteArray) (hm : mayR s = true) : U (quoteR s).2.2.1 ∧ U (quoteR s).2.2.2 ∧ (quoteR s).1.size ≤ s.size := by
  have hx : ∀ n : Nat, (s.extract 0 n).size ≤ s.size := fun n => by rw [← bytesOf_length, MBytes.extract, List.length_take, List.length_drop, bytesOf_length]; omega
  unfold mayR at hm
  unfold quoteR
  cases h6 : sixB s
  · rw [h6, if_neg (by decide)] at hm
    rw [if_neg (by decide)]
    refine ⟨?_, ?_, hx _⟩
    all_goals
      simp only
      rcases Pure4.take_cases s with h | ⟨e, _, _⟩
      · unfold mayFourT at hm
        simp only [Bool.and_eq_true, decide_eq_true_eq] at hm
        exact absurd hm.1 h
      · rw [e]
        unfold Pure4.pkt U
        have r := Pure4.at_range (MBytes.range s) 12 4
        rw [show (256 : Int) ^ 4 = 4294967296 by decide] at r
        simp only
        omega
  · rw [h6, if_pos rfl] at hm
    rw [if_pos rfl]
    refine ⟨?_, ?_, hx _⟩
    all_goals
      simp only
      have h0 : (Pure6.takeR s).2.2.2.2.2.2.2.2.2.2.2 = 0 := by
        unfold maySixT at hm
        simp only [Bool.and_eq_true, decide_eq_true_eq] at hm
        exact hm.1
      obtain ⟨_, _, _, e⟩ := Pure6.take_ok h0
      rw [e]
      unfold U
      have r8 := Pure6.at_range (MBytes.range s) 8 8
      have r16 := Pure6.at_range (MBytes.range s) 16 8
      rw [show (256 : Int) ^ 8 = 18446744073709551616 by decide] at r8 r16
      simp only
      omega
theorem quote_le (s : ByteArray) (hm : mayR s = true) : (quoteR s).1.size ≤ 70000 := by
  unfold mayR at hm
  unfold quoteR
  cases h6 : sixB s
  · rw [h6, if_neg (by decide)] at hm
    rw [if_neg (by decide)]
    have h0 : (Pure4.takeR s).2.2.2.2.2.2.2.2.2.2.2.2.2.2.2 = 0 := by
      unfold mayFourT at hm
      simp only [Bool.and_eq_true, decide_eq_true_eq] at hm
      exact hm.1
    have hz := (Pure4.take_sizes h0).2
    show (s.extract 0 _).size ≤ 70000
    rw [ByteArray.size_extract]
    omega
  · rw [if_pos rfl]
    show (s.extract 0 _).size ≤ 70000
    rw [ByteArray.size_extract]
    omega
theorem j2_ev {why : Int} {s : ByteArray} (hs : s.size ≤ 140737488400000) {rest : Int} {b : Bool} {h l : Int} (uh : U h) (ul : U l) (x : Bool) (kind code : Int) :
    Ev (fun k => excuse_Of.j2 k why s rest (sixB s) kind code x b h l) (if x = true then (⟨#[]⟩, 1) else if mayR s = false then (⟨#[]⟩, 170) else tellR (sixB s) kind code (restR why (sixB s) rest) (quoteR s).1 b h l (quoteR s).2.1 (quoteR s).2.2.1 (quoteR s).2.2.2) := by
  refine Ev.step (fun k => by simp only [excuse_Of.j2]; rfl) ?_
  cases x
  · rw [if_neg (by decide)]
    refine ev_neg (by decide) (Ev.bind (may_ev hs) ?_)
    cases hm : mayR s
    · rw [if_pos rfl]; exact ev_neg (by decide) (ev_eq fun _ => rfl)
    · rw [if_neg (by decide)]
      obtain ⟨q1, q2, _⟩ := quote_U s hm
      have q3 := quote_le s hm
      refine ev_pos (by first | exact True.intro | exact rfl) (Ev.bind (quote_ev hs hm) ?_)
      by_cases h6 : why = 6
      · exact ev_pos h6 (j3_ev (by omega) uh ul q1 q2 (by cases sixB s <;> simp [h6]))
      · exact ev_neg h6 (j3_ev (by omega) uh ul q1 q2 (by simp [h6]))
  · rw [if_pos rfl]
    exact ev_pos (by first | exact True.intro | exact rfl) (ev_eq fun _ => rfl)
theorem of_ev {why : Int} {s : ByteArray} (hs : s.size ≤ 140737488400000) {b : Bool} {h l rest : Int} (uh : U h) (ul : U l) : Ev (fun k => excuse_Of.f k why s b h l rest) (ofR why s b h l rest) := by
  unfold excuse_Of.f
  refine ev_bind (isSix_eq s) (ev_bind (kind_eq why (sixB s)) (ev_bind (class_eq b h l) ?_))
  have J : ∀ x : Bool, x = !argB why (sixB s) b h l rest → Ev (fun k => excuse_Of.j2 k why s rest (sixB s) (kindR why (sixB s)).1 (kindR why (sixB s)).2.1 x b h l) (ofR why s b h l rest) := by
    intro x hx
    have hj := j2_ev (why := why) hs (rest := rest) (b := b) uh ul x (kindR why (sixB s)).1 (kindR why (sixB s)).2.1
    have e : ofR why s b h l rest = (if x = true then (⟨#[]⟩, 1) else if mayR s = false then (⟨#[]⟩, 170) else tellR (sixB s) (kindR why (sixB s)).1 (kindR why (sixB s)).2.1 (restR why (sixB s) rest) (quoteR s).1 b h l (quoteR s).2.1 (quoteR s).2.2.1 (quoteR s).2.2.2) := by
      unfold ofR
      subst hx
      cases argB why (sixB s) b h l rest <;> rfl
    rw [e]; exact hj
  have J1 : ∀ most : Int, most = (if why = 6 ∧ sixB s = false then 255 else 65535) → Ev (fun k => excuse_Of.j1 k why s rest (sixB s) (kindR why (sixB s)).1 (kindR why (sixB s)).2.1 (kindR why (sixB s)).2.2 (cls b h l) most b h l) (ofR why s b h l rest) := by
    intro most hmost
    refine Ev.step (fun k => by simp only [excuse_Of.j1]; rfl) ?_
    unfold argB at J
    rw [← hmost] at J
    cases hK : (kindR why (sixB s)).2.2
    · exact ev_neg (by decide) (J true (by rw [hK]; rfl))
    · refine ev_pos rfl ?_
      by_cases hb : b = sixB s
      · refine ev_neg (by simp [hb]) ?_
        by_cases c5 : cls b h l = 5
        · refine ev_pos c5 ?_
          by_cases r0 : rest < 0
          · exact ev_pos r0 (J true (by rw [hK, decide_eq_false (show ¬ (0 ≤ rest ∧ rest ≤ most) by omega)]; simp))
          · refine ev_neg r0 (J _ ?_)
            rw [hK, hb, ← hb, decide_eq_true c5]
            simp [hb]
            exact rest_eq (by omega)
        · refine ev_neg c5 ?_
          by_cases c2 : cls b h l = 2
          · refine ev_pos c2 ?_
            by_cases r0 : rest < 0
            · exact ev_pos r0 (J true (by rw [hK, decide_eq_false (show ¬ (0 ≤ rest ∧ rest ≤ most) by omega)]; simp))
            · refine ev_neg r0 (J _ ?_)
              rw [hK, decide_eq_true c2]
              simp [hb]
              exact rest_eq (by omega)
          · exact ev_neg c2 (J true (by rw [decide_eq_false c5, decide_eq_false c2]; simp))
      · exact ev_pos (by simp [hb]) (J true (by rw [show (b == sixB s) = false by simp [hb]]; simp))
  have J0 : ∀ x : Bool, x = decide (why = 6 ∧ sixB s = false) → Ev (fun k => excuse_Of.j0 k why s rest (sixB s) (kindR why (sixB s)).1 (kindR why (sixB s)).2.1 (kindR why (sixB s)).2.2 (cls b h l) 65535 x b h l) (ofR why s b h l rest) := by
    intro x hx
    refine Ev.step (fun k => by simp only [excuse_Of.j0]; rfl) ?_
    by_cases hw : why = 6 ∧ sixB s = false
    · exact ev_pos (by rw [hx]; exact decide_eq_true hw) (J1 255 (by rw [if_pos hw]))
    · exact ev_neg (by rw [hx, decide_eq_false hw]; decide) (J1 65535 (by rw [if_neg hw]))
  by_cases h6 : why = 6
  · exact ev_pos h6 (J0 _ (by cases sixB s <;> simp [h6]))
  · exact ev_neg h6 (J0 _ (by simp [h6]))
end Go.Proofs.YtaoopneiglgnkaaDoor.Pure
