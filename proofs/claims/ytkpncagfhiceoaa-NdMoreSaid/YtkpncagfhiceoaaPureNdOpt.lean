/-
  Options in a row, of layer 9: what both readers of them come to, and the plain laws of such rows. No program in sight but their Lean functions. Conditions: those of each theorem.
-/
import Derived.Test.YtkpncagfhiceoaaPBasex14
import Derived.Test.YtkpncagfhiceoaaPureNd
set_option linter.unusedVariables false
set_option linter.unusedSimpArgs false
namespace Go.Proofs.Ytkpncagfhiceoaa.Pure
open Go.RowKit Go.Proofs.Ytkpncagfhiceoaa.PBase Go.Proofs.YtkpncagfhiceoaaW.PrintWords Go.Proofs.YtkpncagfhiceoaaW.PrintLast Go.Proofs.Ytkpncagfhiceoaa.MTally Go.Proofs.Ytkpncagfhiceoaa.MBe
abbrev Opt := S43
/-- The options that some bytes are read as, or what is wrong with them. -/
def O : Nat → List Int → List Opt × Int
  | 0, _ => ([], 81)
  | f + 1, l => if l.length = 0 then ([], 0) else if l.length < 2 then ([], 81) else if rd l 1 = 0 then ([], 80) else if 8 * rd l 1 > (l.length : Int) then ([], 81) else
      if (O f (l.drop (8 * rd l 1).toNat)).2 = 0 then (⟨rd l 0, strOfNums ((l.take (8 * rd l 1).toNat).drop 2)⟩ :: (O f (l.drop (8 * rd l 1).toNat)).1, 0) else ([], (O f (l.drop (8 * rd l 1).toNat)).2)
theorem rd_byte {l : List Int} (hb : Bytes l) {i : Nat} (h : i < l.length) : 0 ≤ rd l (i : Int) ∧ rd l (i : Int) ≤ 255 := by rw [rd_at h]; exact byte_at hb h
theorem rd_byte1 {l : List Int} (hb : Bytes l) (h : 1 < l.length) : 0 ≤ rd l 1 ∧ rd l 1 ≤ 255 := rd_byte hb (i := 1) h
theorem O_fuel : ∀ (f g : Nat) {l : List Int}, Bytes l → l.length < f → l.length < g → O f l = O g l := by
  intro f
  induction f with
  | zero => intro g l _ h; omega
  | succ f ih =>
    intro g l hb h1 h2
    cases g with
    | zero => omega
    | succ g =>
      simp only [O]
      by_cases e0 : l.length = 0
      · rw [if_pos e0, if_pos e0]
      by_cases e1 : l.length < 2
      · rw [if_neg e0, if_neg e0, if_pos e1, if_pos e1]
      by_cases e2 : rd l 1 = 0
      · rw [if_neg e0, if_neg e0, if_neg e1, if_neg e1, if_pos e2, if_pos e2]
      by_cases e3 : 8 * rd l 1 > (l.length : Int)
      · rw [if_neg e0, if_neg e0, if_neg e1, if_neg e1, if_neg e2, if_neg e2, if_pos e3, if_pos e3]
      have r1 := rd_byte1 hb (by omega)
      have hr : O f (l.drop (8 * rd l 1).toNat) = O g (l.drop (8 * rd l 1).toNat) := ih g (hb.drop _) (by rw [List.length_drop]; omega) (by rw [List.length_drop]; omega)
      rw [hr]
def opts (l : List Int) : List Opt × Int := O (l.length + 1) l
theorem opts_nil : opts [] = ([], 0) := rfl
theorem opts_one (x : Int) : opts [x] = ([], 81) := rfl
theorem opts_eq {l : List Int} (hb : Bytes l) (h2 : 2 ≤ l.length) : opts l = if rd l 1 = 0 then ([], 80) else if 8 * rd l 1 > (l.length : Int) then ([], 81) else
    if (opts (l.drop (8 * rd l 1).toNat)).2 = 0 then (⟨rd l 0, strOfNums ((l.take (8 * rd l 1).toNat).drop 2)⟩ :: (opts (l.drop (8 * rd l 1).toNat)).1, 0) else ([], (opts (l.drop (8 * rd l 1).toNat)).2) := by
  have r1 := rd_byte1 hb (by omega)
  have h0 : opts l = O (l.length + 1) l := rfl
  rw [h0]
  simp only [O]
  rw [if_neg (by omega), if_neg (by omega)]
  by_cases e2 : rd l 1 = 0
  · rw [if_pos e2, if_pos e2]
  by_cases e3 : 8 * rd l 1 > (l.length : Int)
  · rw [if_neg e2, if_neg e2, if_pos e3, if_pos e3]
  have hr : O l.length (l.drop (8 * rd l 1).toNat) = opts (l.drop (8 * rd l 1).toNat) := O_fuel _ _ (hb.drop _) (by rw [List.length_drop]; omega) (by omega)
  rw [hr]
theorem opts_small {l : List Int} (h2 : l.length < 2) : opts l = if l.length = 0 then ([], 0) else ([], 81) := by
  match l, h2 with
  | [], _ => rfl
  | [x], _ => rfl
theorem rd_append {l m : List Int} {i : Nat} (h : i < l.length) : rd (l ++ m) (i : Int) = rd l (i : Int) := by
  rw [rd_at h, rd_at (by rw [List.length_append]; omega), List.getElem_append_left h]
theorem opts_err : ∀ (f : Nat) (l : List Int), (O f l).2 = 0 ∨ ((O f l).1 = [] ∧ ((O f l).2 = 80 ∨ (O f l).2 = 81)) := by
  intro f
  induction f with
  | zero => intro l; right; exact ⟨rfl, .inr rfl⟩
  | succ f ih =>
    intro l
    simp only [O]
    split
    · exact .inl rfl
    split
    · exact .inr ⟨rfl, .inr rfl⟩
    split
    · exact .inr ⟨rfl, .inl rfl⟩
    split
    · exact .inr ⟨rfl, .inr rfl⟩
    split
    · exact .inl rfl
    · rename_i h
      right
      rcases ih (l.drop (8 * rd l 1).toNat) with h1 | ⟨_, h1⟩
      · exact absurd h1 h
      · exact ⟨rfl, h1⟩
theorem opts_zero {l : List Int} (h : l.length = 0) : opts l = ([], 0) := by rw [opts_small (by omega), if_pos h]
theorem opts_lone {l : List Int} (h : l.length = 1) : opts l = ([], 81) := by rw [opts_small (by omega), if_neg (by omega)]
/-- A row, and bytes behind it. -/
theorem opts_append : ∀ (n : Nat) {x y : List Int}, x.length ≤ n → Bytes x → Bytes y → (opts x).2 = 0 → opts (x ++ y) = if (opts y).2 = 0 then ((opts x).1 ++ (opts y).1, 0) else ([], (opts y).2) := by
  intro n
  induction n with
  | zero =>
    intro x y hn hx hy h
    obtain rfl : x = [] := List.eq_nil_of_length_eq_zero (by omega)
    rw [List.nil_append, opts_nil]
    by_cases e : (opts y).2 = 0
    · rw [if_pos e]; exact Prod.ext rfl e
    · rw [if_neg e]
      rcases opts_err (y.length + 1) y with h1 | ⟨h1, _⟩
      · exact absurd h1 e
      · exact Prod.ext h1 rfl
  | succ n ih =>
    intro x y hn hx hy h
    by_cases h2 : x.length < 2
    · by_cases h0 : x.length = 0
      · exact ih (by omega) hx hy h
      · rw [opts_small h2, if_neg h0] at h; exact absurd h (by first | decide | simp)
    have hxy : Bytes (x ++ y) := hx.append hy
    have r1 := rd_byte1 hx (by omega)
    rw [opts_eq hx (by omega)] at h
    by_cases e2 : rd x 1 = 0
    · rw [if_pos e2] at h; exact absurd h (by first | decide | simp)
    rw [if_neg e2] at h
    by_cases e3 : 8 * rd x 1 > (x.length : Int)
    · rw [if_pos e3] at h; exact absurd h (by first | decide | simp)
    rw [if_neg e3] at h
    by_cases e4 : (opts (x.drop (8 * rd x 1).toNat)).2 = 0
    · have hi := ih (x := x.drop (8 * rd x 1).toNat) (y := y) (by rw [List.length_drop]; omega) (hx.drop _) hy e4
      have q1 : rd (x ++ y) 1 = rd x 1 := rd_append (i := 1) (by omega)
      have q0 : rd (x ++ y) 0 = rd x 0 := rd_append (i := 0) (by omega)
      rw [opts_eq hx (by omega), if_neg e2, if_neg e3, if_pos e4, opts_eq hxy (by rw [List.length_append]; omega), q1, q0, if_neg e2, if_neg (by rw [List.length_append]; omega), List.drop_append_of_le_length (by omega), List.take_append_of_le_length (by omega), hi]
      by_cases e5 : (opts y).2 = 0
      · rw [if_pos e5, if_pos e5]; rfl
      · rw [if_neg e5, if_neg e5, if_neg e5]
    · rw [if_neg e4] at h; exact absurd h e4
/-- What is wrong within a row stays wrong. -/
theorem opts_form : ∀ (n : Nat) {x y : List Int}, x.length ≤ n → Bytes x → Bytes y → (opts x).2 = 80 → opts (x ++ y) = ([], 80) := by
  intro n
  induction n with
  | zero =>
    intro x y hn hx hy h
    obtain rfl : x = [] := List.eq_nil_of_length_eq_zero (by omega)
    exact absurd h (by first | decide | simp)
  | succ n ih =>
    intro x y hn hx hy h
    by_cases h2 : x.length < 2
    · rw [opts_small h2] at h; split at h <;> exact absurd h (by first | decide | simp)
    have hxy : Bytes (x ++ y) := hx.append hy
    have r1 := rd_byte1 hx (by omega)
    have q1 : rd (x ++ y) 1 = rd x 1 := rd_append (i := 1) (by omega)
    rw [opts_eq hx (by omega)] at h
    rw [opts_eq hxy (by rw [List.length_append]; omega), q1]
    by_cases e2 : rd x 1 = 0
    · rw [if_pos e2]
    rw [if_neg e2] at h ⊢
    by_cases e3 : 8 * rd x 1 > (x.length : Int)
    · rw [if_pos e3] at h; exact absurd h (by first | decide | simp)
    rw [if_neg e3] at h
    rw [if_neg (by rw [List.length_append]; omega), List.drop_append_of_le_length (by omega)]
    by_cases e4 : (opts (x.drop (8 * rd x 1).toNat)).2 = 0
    · rw [if_pos e4] at h; exact absurd h (by first | decide | simp)
    rw [if_neg e4] at h
    have hi := ih (x := x.drop (8 * rd x 1).toNat) (y := y) (by rw [List.length_drop]; omega) (hx.drop _) hy h
    rw [hi]; rfl
/-- A row that is cut short within. -/
theorem opts_cut : ∀ (n : Nat) {x : List Int} {c : Nat}, x.length ≤ n → Bytes x → (opts x).2 = 0 → c < x.length → (opts (x.take c)).2 ≠ 80 ∧ ((opts (x.take c)).2 = 0 → (opts (x.take c)).1.length < (opts x).1.length) := by
  intro n
  induction n with
  | zero => intro x c hn hx h hc; omega
  | succ n ih =>
    intro x c hn hx h hc
    by_cases h2 : x.length < 2
    · rw [opts_small h2, if_neg (by omega)] at h; exact absurd h (by first | decide | simp)
    have r1 := rd_byte1 hx (by omega)
    have ho := opts_eq hx (by omega)
    rw [ho] at h ⊢
    by_cases e2 : rd x 1 = 0
    · rw [if_pos e2] at h; exact absurd h (by first | decide | simp)
    rw [if_neg e2] at h ⊢
    by_cases e3 : 8 * rd x 1 > (x.length : Int)
    · rw [if_pos e3] at h; exact absurd h (by first | decide | simp)
    rw [if_neg e3] at h ⊢
    by_cases e4 : (opts (x.drop (8 * rd x 1).toNat)).2 = 0
    · rw [if_pos e4]
      have hlen : (x.take c).length = c := by rw [List.length_take]; omega
      by_cases hc2 : c < 2
      · rw [opts_small (by omega), hlen]
        by_cases hc0 : c = 0
        · rw [if_pos hc0]; exact ⟨by decide, fun _ => by simp⟩
        · rw [if_neg hc0]; exact ⟨by decide, fun q => absurd q (by decide)⟩
      · have q1 : rd (x.take c) 1 = rd x 1 := by
          have := rd_append (l := x.take c) (m := x.drop c) (i := 1) (by omega)
          rw [List.take_append_drop] at this; exact this.symm
        rw [opts_eq (hx.take _) (by omega), q1, if_neg e2, hlen]
        by_cases e5 : 8 * rd x 1 > (c : Int)
        · rw [if_pos e5]; exact ⟨by decide, fun q => absurd q (by decide)⟩
        rw [if_neg e5]
        have hi := ih (x := x.drop (8 * rd x 1).toNat) (c := c - (8 * rd x 1).toNat) (by rw [List.length_drop]; omega) (hx.drop _) e4 (by rw [List.length_drop]; omega)
        rw [← List.drop_take] at hi
        by_cases e6 : (opts ((x.take c).drop (8 * rd x 1).toNat)).2 = 0
        · rw [if_pos e6]; exact ⟨by simp, fun _ => by have := hi.2 e6; simp only [List.length_cons]; omega⟩
        · rw [if_neg e6]; exact ⟨hi.1, fun q => absurd q e6⟩
    · rw [if_neg e4] at h; exact absurd h e4
def total : List Opt → Nat
  | [] => 0
  | x :: xs => 2 + x.f1.size + total xs
theorem opts_total : ∀ (n : Nat) {x : List Int}, x.length ≤ n → Bytes x → (opts x).2 = 0 → total (opts x).1 = x.length := by
  intro n
  induction n with
  | zero =>
    intro x hn hx h
    obtain rfl : x = [] := List.eq_nil_of_length_eq_zero (by omega)
    rfl
  | succ n ih =>
    intro x hn hx h
    by_cases h2 : x.length < 2
    · by_cases h0 : x.length = 0
      · obtain rfl : x = [] := List.eq_nil_of_length_eq_zero h0
        rfl
      · rw [opts_small h2, if_neg h0] at h; exact absurd h (by first | decide | simp)
    have r1 := rd_byte1 hx (by omega)
    have ho := opts_eq hx (by omega)
    rw [ho] at h ⊢
    by_cases e2 : rd x 1 = 0
    · rw [if_pos e2] at h; exact absurd h (by first | decide | simp)
    rw [if_neg e2] at h ⊢
    by_cases e3 : 8 * rd x 1 > (x.length : Int)
    · rw [if_pos e3] at h; exact absurd h (by first | decide | simp)
    rw [if_neg e3] at h ⊢
    by_cases e4 : (opts (x.drop (8 * rd x 1).toNat)).2 = 0
    · rw [if_pos e4]
      have hi := ih (x := x.drop (8 * rd x 1).toNat) (by rw [List.length_drop]; omega) (hx.drop _) e4
      simp only [total]
      rw [hi, MBytes.size_ofNums, List.length_drop, List.length_take, List.length_drop]
      omega
    · rw [if_neg e4] at h; exact absurd h e4
theorem opts_length {x : List Int} (hx : Bytes x) (h : (opts x).2 = 0) : (opts x).1.length * 8 ≤ x.length := by
  have key : ∀ (n : Nat) {x : List Int}, x.length ≤ n → Bytes x → (opts x).2 = 0 → (opts x).1.length * 8 ≤ x.length := by
    intro n
    induction n with
    | zero =>
      intro x hn hx h
      obtain rfl : x = [] := List.eq_nil_of_length_eq_zero (by omega)
      exact Nat.le_refl _
    | succ n ih =>
      intro x hn hx h
      by_cases h2 : x.length < 2
      · by_cases h0 : x.length = 0
        · obtain rfl : x = [] := List.eq_nil_of_length_eq_zero h0
          exact Nat.le_refl _
        · rw [opts_small h2, if_neg h0] at h; exact absurd h (by first | decide | simp)
      have r1 := rd_byte1 hx (by omega)
      have ho := opts_eq hx (by omega)
      rw [ho] at h ⊢
      by_cases e2 : rd x 1 = 0
      · rw [if_pos e2] at h; exact absurd h (by first | decide | simp)
      rw [if_neg e2] at h ⊢
      by_cases e3 : 8 * rd x 1 > (x.length : Int)
      · rw [if_pos e3] at h; exact absurd h (by first | decide | simp)
      rw [if_neg e3] at h ⊢
      by_cases e4 : (opts (x.drop (8 * rd x 1).toNat)).2 = 0
      · rw [if_pos e4]
        have hi := ih (x := x.drop (8 * rd x 1).toNat) (by rw [List.length_drop]; omega) (hx.drop _) e4
        rw [List.length_drop] at hi
        simp only [List.length_cons]
        omega
      · rw [if_neg e4] at h; exact absurd h e4
  exact key x.length (Nat.le_refl _) hx h
/-- The program's reader of options, the document's. -/
theorem opt_l0 : ∀ (n : Nat) (s : ByteArray) (acc : List Opt), s.size ≤ n → acc.length + s.size / 8 < 5864062014805 → s.size ≤ 140737488351232 →
    Ev (fun k => nd_Options.l0 k s acc) (if (opts (bytesOf s)).2 = 0 then (acc ++ (opts (bytesOf s)).1, 0) else ([], (opts (bytesOf s)).2)) := by
  intro n
  induction n with
  | zero =>
    intro s acc hn ha hs
    have hl := bytesOf_length s
    rw [opts_zero (by omega), if_pos rfl, List.append_nil]
    refine Ev.step (f := fun _ => some (acc, 0)) (fun k => ?_) (Ev.now _)
    simp only [nd_Options.l0]; rw [if_neg (by omega)]
  | succ n ih =>
    intro s acc hn ha hs
    have hl := bytesOf_length s
    have hb : Bytes (bytesOf s) := MBytes.range s
    by_cases h0 : s.size = 0
    · exact ih s acc (by omega) ha hs
    by_cases h2 : s.size < 2
    · rw [opts_lone (by omega), if_neg (by decide)]
      refine Ev.step (f := fun _ => some ([], 81)) (fun k => ?_) (Ev.now _)
      simp only [nd_Options.l0]; rw [if_pos (by omega), if_pos (by omega)]
    have b0 := bt_range s 0
    have b1 := bt_range s 1
    have e1 : wrap64 (bt s 1) = bt s 1 := w64 (by omega) (by omega)
    have e0 : wrap64 (bt s 0) = bt s 0 := w64 (by omega) (by omega)
    have e8 : wrap64 (8 * bt s 1) = 8 * bt s 1 := w64 (by omega) (by omega)
    rw [opts_eq hb (by omega), rd_bytesOf, rd_bytesOf, hl]
    by_cases c0 : bt s 1 = 0
    · rw [if_pos c0, if_neg (by decide)]
      refine Ev.step (f := fun _ => some ([], 80)) (fun k => ?_) (Ev.now _)
      simp only [nd_Options.l0]; rw [if_pos (by omega), if_neg (by omega), if_pos (by omega), e1, e8, if_pos (by omega)]
    rw [if_neg c0]
    by_cases c1 : 8 * bt s 1 > (s.size : Int)
    · rw [if_pos c1, if_neg (by decide)]
      refine Ev.step (f := fun _ => some ([], 81)) (fun k => ?_) (Ev.now _)
      simp only [nd_Options.l0]; rw [if_pos (by omega), if_neg (by omega), if_pos (by omega), e1, e8, if_neg (by omega), if_pos c1]
    rw [if_neg c1]
    obtain ⟨m, hm⟩ : ∃ m : Nat, (8 * bt s 1).toNat = m := ⟨_, rfl⟩
    have hd : bytesOf (s.extract m s.size) = (bytesOf s).drop m := by
      rw [MBytes.extract]; exact List.take_of_length_le (by rw [List.length_drop]; omega)
    have hx : s.extract 2 m = strOfNums (((bytesOf s).take m).drop 2) := by
      apply MBytes.inj
      rw [MBytes.extract, MBytes.ofNums ((hb.take _).drop _), List.drop_take]
    have hsz : (s.extract m s.size).size = s.size - m := by rw [← bytesOf_length, hd, List.length_drop, hl]
    have hi := ih (s.extract m s.size) (acc ++ [⟨bt s 0, s.extract 2 m⟩]) (by omega) (by rw [List.length_append, List.length_singleton, hsz]; omega) (by omega)
    rw [hd] at hi
    rw [hm, ← hx]
    refine Ev.step (f := fun k => nd_Options.l0 k (s.extract m s.size) (acc ++ [⟨bt s 0, s.extract 2 m⟩])) (fun k => ?_) ?_
    · simp only [nd_Options.l0]
      rw [if_pos (by omega), if_neg (by omega), if_pos (by omega), e1, e8, if_neg (by omega), if_neg c1, if_pos (by omega), if_pos (by omega), if_pos (by omega), if_pos (by omega), if_pos (by omega), hm, e0]
    · by_cases c2 : (opts ((bytesOf s).drop m)).2 = 0
      · rw [if_pos c2] at hi ⊢
        rw [if_pos rfl]
        rw [List.append_assoc] at hi; exact hi
      · rw [if_neg c2] at hi ⊢
        rw [if_neg c2]; exact hi
theorem opt_ev {s : ByteArray} (hs : s.size / 8 < 5864062014805) : Ev (fun k => nd_Options.f k s) (opts (bytesOf s)) := by
  unfold nd_Options.f
  have h := opt_l0 s.size s [] (Nat.le_refl _) (by simpa using hs) (by omega)
  rcases opts_err ((bytesOf s).length + 1) (bytesOf s) with h1 | ⟨h1, h2⟩
  · have h1 : (opts (bytesOf s)).2 = 0 := h1
    rw [if_pos h1, List.nil_append] at h
    rw [show opts (bytesOf s) = ((opts (bytesOf s)).1, 0) from Prod.ext rfl h1]; exact h
  · have h1 : (opts (bytesOf s)).1 = [] := h1
    have h2 : (opts (bytesOf s)).2 = 80 ∨ (opts (bytesOf s)).2 = 81 := h2
    rw [if_neg (by omega)] at h
    rw [show opts (bytesOf s) = ([], (opts (bytesOf s)).2) from Prod.ext h1 rfl]; exact h
theorem ropt_l0 (s : ByteArray) (hs : s.size ≤ 140737488351232) : ∀ (n p : Nat) (acc : List Opt), s.size ≤ p + n → p ≤ s.size → acc.length + (s.size - p) / 8 < 5864062014805 →
    Ev (fun k => crosswayref09_Options.l0 k s acc (p : Int)) (if (opts ((bytesOf s).drop p)).2 = 0 then (acc ++ (opts ((bytesOf s).drop p)).1, 0) else ([], (opts ((bytesOf s).drop p)).2)) := by
  intro n
  induction n with
  | zero =>
    intro p acc hn hp ha
    have hl := bytesOf_length s
    rw [List.drop_eq_nil_of_le (by omega), opts_nil, if_pos rfl, List.append_nil]
    refine Ev.step (f := fun _ => some (acc, 0)) (fun k => ?_) (Ev.now _)
    simp only [crosswayref09_Options.l0]; rw [if_neg (by omega)]
  | succ n ih =>
    intro p acc hn hp ha
    have hl := bytesOf_length s
    have hb : Bytes (bytesOf s) := MBytes.range s
    by_cases h0 : p = s.size
    · exact ih p acc (by omega) hp ha
    have hdl : ((bytesOf s).drop p).length = s.size - p := by rw [List.length_drop, hl]
    have ep : Aside0 (wrap64 ((p : Int) + 1) = (p : Int) + 1) := ⟨w64 (by omega) (by omega)⟩
    by_cases h2 : p + 1 = s.size
    · rw [opts_lone (by omega), if_neg (by decide)]
      refine Ev.step (f := fun _ => some ([], 81)) (fun k => ?_) (Ev.now _)
      simp only [crosswayref09_Options.l0]; rw [if_pos (by omega), ep.out, if_pos (by omega)]
    have g1 : rd ((bytesOf s).drop p) 1 = bt s ((p : Int) + 1) := by
      rw [← rd_bytesOf]
      have a1 := rd_at (xs := (bytesOf s).drop p) (i := 1) (by omega)
      have a2 := rd_at (xs := bytesOf s) (i := p + 1) (by omega)
      rw [show ((p + 1 : Nat) : Int) = (p : Int) + 1 by omega] at a2
      rw [a2]; rw [show rd ((bytesOf s).drop p) 1 = _ from a1, List.getElem_drop]
    have g0 : rd ((bytesOf s).drop p) 0 = bt s (p : Int) := by
      rw [← rd_bytesOf]
      have a1 := rd_at (xs := (bytesOf s).drop p) (i := 0) (by omega)
      have a2 := rd_at (xs := bytesOf s) (i := p) (by omega)
      rw [a2]; rw [show rd ((bytesOf s).drop p) 0 = _ from a1, List.getElem_drop]; rfl
    have b0 := bt_range s (p : Int)
    have b1 := bt_range s ((p : Int) + 1)
    have e1 : Aside0 (wrap64 (bt s ((p : Int) + 1)) = bt s ((p : Int) + 1)) := ⟨w64 (by omega) (by omega)⟩
    have e0 : Aside0 (wrap64 (bt s (p : Int)) = bt s (p : Int)) := ⟨w64 (by omega) (by omega)⟩
    have e8 : Aside0 (wrap64 (8 * bt s ((p : Int) + 1)) = 8 * bt s ((p : Int) + 1)) := ⟨w64 (by omega) (by omega)⟩
    have e9 : Aside0 (wrap64 ((p : Int) + 8 * bt s ((p : Int) + 1)) = (p : Int) + 8 * bt s ((p : Int) + 1)) := ⟨w64 (by omega) (by omega)⟩
    have ep2 : Aside0 (wrap64 ((p : Int) + 2) = (p : Int) + 2) := ⟨w64 (by omega) (by omega)⟩
    rw [opts_eq (hb.drop _) (by omega), g1, g0, hdl]
    obtain ⟨v, hv⟩ : ∃ v, bt s ((p : Int) + 1) = v := ⟨_, rfl⟩
    rw [hv] at b1 e1 e8 e9 ⊢
    by_cases c0 : v = 0
    · rw [if_pos c0, if_neg (by decide)]
      refine Ev.step (f := fun _ => some ([], 80)) (fun k => ?_) (Ev.now _)
      simp only [crosswayref09_Options.l0]; rw [if_pos (by omega), ep.out, if_neg (by omega), if_pos (by omega), if_pos (by omega), hv, e1.out, e8.out, e9.out, if_pos (by omega)]
    rw [if_neg c0]
    by_cases c1 : 8 * v > ((s.size - p : Nat) : Int)
    · rw [if_pos c1, if_neg (by decide)]
      refine Ev.step (f := fun _ => some ([], 81)) (fun k => ?_) (Ev.now _)
      simp only [crosswayref09_Options.l0]; rw [if_pos (by omega), ep.out, if_neg (by omega), if_pos (by omega), if_pos (by omega), hv, e1.out, e8.out, e9.out, if_neg (by omega), if_pos (by omega)]
    rw [if_neg c1]
    obtain ⟨m, hm⟩ : ∃ m : Nat, (8 * v).toNat = m := ⟨_, rfl⟩
    have hx : s.extract (p + 2) (p + m) = strOfNums ((((bytesOf s).drop p).take m).drop 2) := by
      apply MBytes.inj
      rw [MBytes.extract, MBytes.ofNums (((hb.drop _).take _).drop _), List.drop_take, List.drop_drop]
      congr 1; omega
    have hi := ih (p + m) (acc ++ [⟨bt s (p : Int), s.extract (p + 2) (p + m)⟩]) (by omega) (by omega) (by rw [List.length_append, List.length_singleton]; omega)
    rw [hm, ← hx, List.drop_drop]
    refine Ev.step (f := fun k => crosswayref09_Options.l0 k s (acc ++ [⟨bt s (p : Int), s.extract (p + 2) (p + m)⟩]) ((p + m : Nat) : Int)) (fun k => ?_) ?_
    · simp only [crosswayref09_Options.l0]
      rw [if_pos (by omega), ep.out, if_neg (by omega), if_pos (by omega), if_pos (by omega), hv, e1.out, e8.out, e9.out, if_neg (by omega), if_neg (by omega), if_pos (by omega), ep2.out, if_pos (by omega), if_pos (by omega), if_pos (by omega), if_pos (by omega), e0.out,
        show ((p : Int) + 2).toNat = p + 2 by omega, show ((p : Int) + 8 * v).toNat = p + m by omega, show (p : Int) + 8 * v = ((p + m : Nat) : Int) by omega]
    · by_cases c2 : (opts ((bytesOf s).drop (p + m))).2 = 0
      · rw [if_pos c2] at hi ⊢
        rw [if_pos rfl]
        rw [List.append_assoc] at hi; exact hi
      · rw [if_neg c2] at hi ⊢
        rw [if_neg c2]; exact hi
theorem ropt_ev {s : ByteArray} (hs : s.size / 8 < 5864062014805) : Ev (fun k => crosswayref09_Options.f k s) (opts (bytesOf s)) := by
  unfold crosswayref09_Options.f
  have h := ropt_l0 s (by omega) s.size 0 [] (by omega) (by omega) (by simpa using hs)
  rw [List.drop_zero] at h
  rcases opts_err ((bytesOf s).length + 1) (bytesOf s) with h1 | ⟨h1, h2⟩
  · have h1 : (opts (bytesOf s)).2 = 0 := h1
    rw [if_pos h1, List.nil_append] at h
    rw [show opts (bytesOf s) = ((opts (bytesOf s)).1, 0) from Prod.ext rfl h1]; exact h
  · have h1 : (opts (bytesOf s)).1 = [] := h1
    have h2 : (opts (bytesOf s)).2 = 80 ∨ (opts (bytesOf s)).2 = 81 := h2
    rw [if_neg (by omega)] at h
    rw [show opts (bytesOf s) = ([], (opts (bytesOf s)).2) from Prod.ext h1 rfl]; exact h
theorem same_loop (l : List Opt) (hl : l.length ≤ 140737488355328) : ∀ (xs pre : List Opt), l = pre ++ xs → Ev (fun k => crosswaylaw09_same.l0 k l l (pre.length : Int)) true
  | [], pre, h => by
    have hz : l.length = pre.length := by rw [h]; simp
    refine Ev.step (fun k => by simp only [crosswaylaw09_same.l0]; rfl) ?_
    exact ev_neg (by omega) (ev_eq fun _ => rfl)
  | x :: xs, pre, h => by
    have hz : l.length = pre.length + (xs.length + 1) := by rw [h]; simp
    refine Ev.step (fun k => by simp only [crosswaylaw09_same.l0]; rfl) ?_
    refine ev_pos (by omega) (ev_pos (by omega) (ev_pos (by omega) (ev_neg (by simp) ?_)))
    have h2 := same_loop l hl xs (pre ++ [x]) (by rw [h]; simp)
    have ew : wrap64 ((pre.length : Int) + 1) = ((pre ++ [x]).length : Int) := by rw [w64 (by omega) (by omega)]; simp
    rw [ew]
    exact h2
theorem same_ev (l : List Opt) (hl : l.length ≤ 140737488355328) : Ev (fun k => crosswaylaw09_same.f k l l) true := by
  unfold crosswaylaw09_same.f
  exact ev_pos rfl (same_loop l hl l [] rfl)
end Go.Proofs.Ytkpncagfhiceoaa.Pure
