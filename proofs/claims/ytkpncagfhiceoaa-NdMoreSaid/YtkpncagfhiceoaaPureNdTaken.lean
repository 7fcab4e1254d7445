/-
  What the readers of Solicits and Adverts come to. No program in sight but their Lean functions. Conditions: those of each theorem.
-/
import Derived.Test.YtkpncagfhiceoaaPBasex9
import Derived.Test.YtkpncagfhiceoaaPureNdOpt
set_option linter.unusedVariables false
set_option linter.unusedSimpArgs false
namespace Go.Proofs.Ytkpncagfhiceoaa.Pure
open Go.RowKit Go.Proofs.Ytkpncagfhiceoaa.PBase Go.Proofs.YtkpncagfhiceoaaW.PrintWords Go.Proofs.YtkpncagfhiceoaaW.PrintLast Go.Proofs.Ytkpncagfhiceoaa.MTally Go.Proofs.Ytkpncagfhiceoaa.MBe
theorem may_of {t : Bool} {h l : Int} {has : Bool} {m : Int} (hb : mayB t h l has m = true) : t = true ∧ mayB t h l false 0 = true ∧ m < 281474976710656 ∧ (has = true ∨ m = 0) := by
  unfold mayB at hb ⊢
  simp only [Bool.and_eq_true, decide_eq_true_eq, Bool.or_eq_true, beq_iff_eq] at hb ⊢
  refine ⟨hb.1, ⟨hb.1, hb.2.1, hb.2.2.1, by decide, (by first | exact .inr True.intro | exact .inr rfl)⟩, hb.2.2.2.1, hb.2.2.2.2⟩
/-- The Mac that the first option of a kind tells. -/
def macR (opt : Int) (b : Bool) (hi lo : Int) (l : List Opt) : Bool × Int × Int × Bool × Int × Int :=
  match nd_taken.find opt l with
  | none => (b, hi, lo, false, 0, 0)
  | some x => (b, hi, lo, true, num (bytesOf x.f1), 0)
theorem mac_ev (opt : Int) (b : Bool) (hi lo : Int) (l : List Opt) : Ev (fun k => nd_taken.mac k opt b hi lo l) (macR opt b hi lo l) := by
  unfold macR
  cases hf : nd_taken.find opt l with
  | none => exact ev_eq fun k => by unfold nd_taken.mac; rw [hf]
  | some x =>
    have h6 : x.f1.size = 6 := by
      have := List.find?_some (show l.find? (fun x => x.f0 == opt && x.f1.size == 6) = some x from hf)
      simp at this; exact this.2
    have hg := get_ev (l := bytesOf x.f1) (a := 0) (w := 6) (MBytes.range _) (by rw [bytesOf_length]; omega) (by decide) (by decide)
    have e : get (bytesOf x.f1) 0 6 = (num (bytesOf x.f1), true) := by
      unfold get
      rw [if_pos (by unfold fits; rw [bytesOf_length]; omega)]
      unfold slice_
      rw [show (0 : Int).toNat = 0 from rfl, show (6 : Int).toNat = 6 from rfl, List.drop_zero, List.take_of_length_le (by rw [bytesOf_length]; omega)]
    rw [e] at hg
    obtain ⟨K, hK⟩ := hg
    refine ⟨K, fun k hk => ?_⟩
    unfold nd_taken.mac
    rw [hf]
    simp only
    rw [show octet_Get.f k (bytesOf x.f1) 0 6 = some (num (bytesOf x.f1), true) from hK k hk]; rfl
/-- What is read of sixteen bytes of an address and a row of options. -/
theorem taken_ev {six : Bool} {kind code rest : Int} {s : ByteArray} {kd opt : Int} (h1 : six = true) (h2 : kind = kd) (h3 : code = 0) (hs : 16 ≤ s.size) (hs2 : s.size ≤ 1000000) {h l : Int} {os : List Opt}
    (ha : (bytesOf s).take 16 = be h 8 ++ be l 8) (hh : 0 ≤ h ∧ h ≤ 18446744073709551615) (hl : 0 ≤ l ∧ l ≤ 18446744073709551615) (hm : mayB true h l false 0 = true) (ho : opts ((bytesOf s).drop 16) = (os, 0)) :
    Ev (fun k => nd_taken.f k six kind code rest s kd opt) (macR opt true h l os) := by
  subst h1; subst h2; subst h3
  unfold nd_taken.f
  refine ev_neg (by simp) (ev_neg (by omega) (ev_neg (by omega) ?_))
  have e1 : bytesOf (s.extract 0 16) = be h 8 ++ be l 8 := by rw [MBytes.extract, ← ha]; simp
  have e2 : bytesOf (s.extract 16 s.size) = (bytesOf s).drop 16 := by
    rw [MBytes.extract]; exact List.take_of_length_le (by rw [List.length_drop, bytesOf_length]; omega)
  have hof := of_ev (l := be h 8 ++ be l 8) (Bytes.append (be_bytes _ _) (be_bytes _ _)) (by rw [List.length_append, be_length, be_length])
  rw [show (be h 8 ++ be l 8).take 8 = be h 8 from List.take_left' (be_length _ _), show (be h 8 ++ be l 8).drop 8 = be l 8 from List.drop_left' (be_length _ _), num_be, num_be, Int.emod_eq_of_lt (by omega) (by have := hh.2; omega), Int.emod_eq_of_lt (by omega) (by have := hl.2; omega)] at hof
  rw [e1]
  have hop := opt_ev (s := s.extract 16 s.size) (by rw [← bytesOf_length, e2, List.length_drop, bytesOf_length]; omega)
  rw [e2, ho] at hop
  have hol : os.length ≤ 1000000 := by
    have := opts_length (x := (bytesOf s).drop 16) ((show Bytes (bytesOf s) from MBytes.range s).drop _) (by rw [ho])
    rw [ho, List.length_drop, bytesOf_length] at this
    simp only at this; omega
  refine Ev.bind hof (ev_bind (may_eq _ _ _ _ _) (ev_neg (by rw [hm]; decide) (Ev.bind hop (ev_neg (by simp) (ev_neg (by simp only; omega) (mac_ev opt true h l os))))))
theorem D_true (opt : Int) (h l : Int) (has : Bool) (m : Int) : D opt true h l has m = (be h 8 ++ be l 8) ++ (if has = true then [opt, 1] ++ be m 6 else []) := by unfold D adr; rw [if_pos rfl]
theorem D_bytes {opt : Int} (h0 : 0 ≤ opt ∧ opt ≤ 255) (h l : Int) (has : Bool) (m : Int) : Bytes (D opt true h l has m) := by
  rw [D_true]
  refine Bytes.append (Bytes.append (be_bytes _ _) (be_bytes _ _)) ?_
  cases has
  · rw [if_neg (by decide)]; exact Bytes.nil
  · rw [if_pos rfl]
    refine Bytes.append ?_ (be_bytes _ _)
    intro x hx
    simp only [List.mem_cons, List.not_mem_nil, or_false] at hx
    omega
theorem D_length (opt : Int) (h l : Int) (has : Bool) (m : Int) : 16 ≤ (D opt true h l has m).length ∧ (D opt true h l has m).length ≤ 24 := by
  rw [D_true]
  simp only [List.length_append, be_length]
  cases has
  · simp
  · simp [be_length]
theorem D_take (opt : Int) (h l : Int) (has : Bool) (m : Int) : (D opt true h l has m).take 16 = be h 8 ++ be l 8 := by
  rw [D_true]; exact List.take_left' (by rw [List.length_append, be_length, be_length])
theorem D_drop (opt : Int) (h l : Int) (has : Bool) (m : Int) : (D opt true h l has m).drop 16 = if has = true then [opt, 1] ++ be m 6 else [] := by
  rw [D_true]; exact List.drop_left' (by rw [List.length_append, be_length, be_length])
/-- The option that tells a Mac. -/
def one (opt : Int) (has : Bool) (m : Int) : List Opt := if has = true then [⟨opt, strOfNums (be m 6)⟩] else []
theorem opts_one8 {opt : Int} (h0 : 0 ≤ opt ∧ opt ≤ 255) (m : Int) : opts ([opt, 1] ++ be m 6) = ([⟨opt, strOfNums (be m 6)⟩], 0) := by
  have hb : Bytes ([opt, 1] ++ be m 6) := by
    refine Bytes.append ?_ (be_bytes _ _)
    intro x hx
    simp only [List.mem_cons, List.not_mem_nil, or_false] at hx
    omega
  have hl : ([opt, 1] ++ be m 6).length = 8 := by rw [List.length_append, be_length]; rfl
  rw [opts_eq hb (by omega), show rd ([opt, 1] ++ be m 6) 1 = 1 from rfl, show rd ([opt, 1] ++ be m 6) 0 = opt from rfl, if_neg (by decide), if_neg (by rw [hl]; decide), show (8 * 1 : Int).toNat = 8 from rfl, List.drop_eq_nil_of_le (by omega), opts_nil, if_pos rfl, List.take_of_length_le (by omega)]
  rfl
theorem opts_D {opt : Int} (h0 : 0 ≤ opt ∧ opt ≤ 255) (h l : Int) (has : Bool) (m : Int) : opts ((D opt true h l has m).drop 16) = (one opt has m, 0) := by
  rw [D_drop]
  unfold one
  cases has
  · rw [if_neg (by decide), if_neg (by decide), opts_nil]
  · rw [if_pos rfl, if_pos rfl, opts_one8 h0]
theorem mac_one {opt : Int} {h l : Int} {has : Bool} {m : Int} (hm : 0 ≤ m ∧ m < 281474976710656) (hz : has = true ∨ m = 0) (more : List Opt) (hk : ∀ x ∈ more, x.f0 ≠ opt) : macR opt true h l (one opt has m ++ more) = (true, h, l, has, m, 0) := by
  unfold macR one
  cases has
  · have hm0 : m = 0 := by rcases hz with h | h; cases h; exact h
    subst hm0
    have hf : nd_taken.find opt (([] : List Opt) ++ more) = none := by
      unfold nd_taken.find
      rw [List.nil_append, List.find?_eq_none]
      intro x hx
      have := hk x hx
      simp [this]
    rw [if_neg (by decide), hf]
  · have hf : nd_taken.find opt (([⟨opt, strOfNums (be m 6)⟩] : List Opt) ++ more) = some ⟨opt, strOfNums (be m 6)⟩ := by
      unfold nd_taken.find
      rw [List.singleton_append, List.find?_cons]
      have : ((⟨opt, strOfNums (be m 6)⟩ : Opt).f0 == opt && (⟨opt, strOfNums (be m 6)⟩ : Opt).f1.size == 6) = true := by simp [MBytes.size_ofNums, be_length]
      rw [this]
    rw [if_pos rfl, hf]
    simp only
    rw [MBytes.ofNums (be_bytes m 6), num_be, Int.emod_eq_of_lt hm.1 (by have := hm.2; omega)]
theorem laid_back {kd opt rest : Int} (h0 : 0 ≤ opt ∧ opt ≤ 255) {h l : Int} {has : Bool} {m : Int} (hb : mayB true h l has m = true) (hh : 0 ≤ h ∧ h ≤ 18446744073709551615) (hl : 0 ≤ l ∧ l ≤ 18446744073709551615) (hm : 0 ≤ m ∧ m ≤ 18446744073709551615) :
    Ev (fun k => nd_taken.f k true kd 0 rest (strOfNums (D opt true h l has m)) kd opt) (true, h, l, has, m, 0) := by
  obtain ⟨_, h1, h2, h3⟩ := may_of hb
  have hd := D_bytes h0 h l has m
  have hdl := D_length opt h l has m
  have e := MBytes.ofNums hd
  have h4 := taken_ev (kd := kd) (opt := opt) (rest := rest) (s := strOfNums (D opt true h l has m)) (six := true) (kind := kd) (code := 0) rfl rfl rfl (by rw [MBytes.size_ofNums]; omega) (by rw [MBytes.size_ofNums]; omega) (h := h) (l := l) (os := one opt has m) (by rw [e]; exact D_take ..) hh hl h1 (by rw [e]; exact opts_D h0 ..)
  have h5 := mac_one (opt := opt) (h := h) (l := l) ⟨hm.1, h2⟩ h3 [] (by simp)
  rw [List.append_nil] at h5
  rw [h5] at h4; exact h4
theorem ask_back {h l : Int} {has : Bool} {m : Int} (hb : mayB true h l has m = true) (hh : 0 ≤ h ∧ h ≤ 18446744073709551615) (hl : 0 ≤ l ∧ l ≤ 18446744073709551615) (hm : 0 ≤ m ∧ m ≤ 18446744073709551615) :
    Ev (fun k => nd_TakeAsk.f k true 135 0 0 (strOfNums (D 1 true h l has m))) (true, h, l, has, m, 0) := by
  unfold nd_TakeAsk.f
  exact Ev.bind (laid_back (kd := 135) (rest := 0) (by decide) hb hh hl hm) (ev_eq fun _ => rfl)
theorem bits_back (a b c : Bool) : ((Go.bits .and .i64 (nd_laid.rest a b c / 2147483648) 1) == 1) = a ∧ ((Go.bits .and .i64 (nd_laid.rest a b c / 1073741824) 1) == 1) = b ∧ ((Go.bits .and .i64 (nd_laid.rest a b c / 536870912) 1) == 1) = c := by
  cases a <;> cases b <;> cases c <;> decide +kernel
theorem tell_back {h l : Int} {has : Bool} {m : Int} (hb : mayB true h l has m = true) (hh : 0 ≤ h ∧ h ≤ 18446744073709551615) (hl : 0 ≤ l ∧ l ≤ 18446744073709551615) (hm : 0 ≤ m ∧ m ≤ 18446744073709551615) (br ba bo : Bool) :
    Ev (fun k => nd_TakeTell.f k true 136 0 (nd_laid.rest br ba bo) (strOfNums (D 2 true h l has m))) (true, h, l, br, ba, bo, has, m, 0) := by
  unfold nd_TakeTell.f
  obtain ⟨q1, q2, q3⟩ := bits_back br ba bo
  refine Ev.bind (laid_back (kd := 136) (rest := nd_laid.rest br ba bo) (by decide) hb hh hl hm) (ev_eq fun _ => ?_)
  rw [if_pos rfl, q1, q2, q3]
theorem tell_not {kind code rest : Int} {s : ByteArray} (h : kind ≠ 136) : Ev (fun k => nd_TakeTell.f k true kind code rest s) (false, 0, 0, false, false, false, false, 0, 80) := by
  have h2 : Ev (fun k => nd_taken.f k true kind code rest s 136 2) (nd_taken.no 80) := by
    unfold nd_taken.f
    exact ev_pos (.inr (.inl h)) (ev_eq fun _ => rfl)
  unfold nd_TakeTell.f
  exact Ev.bind h2 (ev_eq fun _ => rfl)
theorem ask_not {kind code rest : Int} {s : ByteArray} (h : kind ≠ 135) : Ev (fun k => nd_TakeAsk.f k true kind code rest s) (false, 0, 0, false, 0, 80) := by
  have h2 : Ev (fun k => nd_taken.f k true kind code rest s 135 1) (nd_taken.no 80) := by
    unfold nd_taken.f
    exact ev_pos (.inr (.inl h)) (ev_eq fun _ => rfl)
  unfold nd_TakeAsk.f
  exact Ev.bind h2 (ev_eq fun _ => rfl)
end Go.Proofs.Ytkpncagfhiceoaa.Pure
