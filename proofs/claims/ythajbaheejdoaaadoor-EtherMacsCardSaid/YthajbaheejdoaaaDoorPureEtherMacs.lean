/-
  What the functions that read and tell link's addresses come to; the pure law EtherMacs. No program in sight but their Lean functions. Conditions: those of each theorem.
-/
import Derived.Test.YthajbaheejdoaaaDoorPBasex18
import Derived.Test.YthajbaheejdoaaaDoorPureEther
import Derived.WalkSmall
set_option linter.unusedVariables false
set_option linter.unusedSimpArgs false
namespace Go.Proofs.YthajbaheejdoaaaDoor.Pure
open Go.RowKit Go.Proofs.YthajbaheejdoaaaDoor.PBase Go.Proofs.YthajbaheejdoaaaDoorW.PrintWords Go.Proofs.YthajbaheejdoaaaDoorW.PrintLast Go.Proofs.YthajbaheejdoaaaDoor.MTally Go.Proofs.YthajbaheejdoaaaDoor.MBe
/-- What a digit of base sixteen says, or -1. -/
def dig (c : Int) : Int := if 48 ≤ c ∧ c ≤ 57 then c - 48 else if 97 ≤ c ∧ c ≤ 102 then c - 87 else if 65 ≤ c ∧ c ≤ 70 then c - 55 else -1
theorem dig_range (c : Int) : -1 ≤ dig c ∧ dig c ≤ 15 := by unfold dig; split; omega; split; omega; split <;> omega
theorem w32 {n : Int} (h0 : -2147483648 ≤ n) (h1 : n ≤ 2147483647) : wrap32 n = n := by unfold wrap32; omega
theorem digit_ev {c : Int} (h0 : 0 ≤ c) (h1 : c ≤ 2147483647) : Ev (fun k => ether_digit.f k c) (dig c) := by
  have j0 : ∀ b : Bool, (b = true ↔ (48 ≤ c ∧ c ≤ 57)) → Ev (fun k => ether_digit.j0 k c b) (dig c) := by
    intro b hb
    refine Ev.step (fun k => by simp only [ether_digit.j0]; rfl) ?_
    by_cases h : 48 ≤ c ∧ c ≤ 57
    · have e : dig c = c - 48 := by unfold dig; rw [if_pos h]
      rw [e]
      refine ev_pos (hb.2 h) (ev_eq fun _ => ?_)
      rw [w32 (by omega) (by omega), w64 (by omega) (by omega)]
    · refine ev_neg (fun q => h (hb.1 q)) ?_
      have j1 : ∀ b : Bool, (b = true ↔ (97 ≤ c ∧ c ≤ 102)) → Ev (fun k => ether_digit.j1 k c b) (dig c) := by
        intro b hb
        refine Ev.step (fun k => by simp only [ether_digit.j1]; rfl) ?_
        by_cases h2 : 97 ≤ c ∧ c ≤ 102
        · have e : dig c = c - 87 := by unfold dig; rw [if_neg h, if_pos h2]
          rw [e]
          refine ev_pos (hb.2 h2) (ev_eq fun _ => ?_)
          rw [w32 (n := c - 97) (by omega) (by omega), w64 (n := c - 97) (by omega) (by omega), w64 (by omega) (by omega)]
          congr 1; omega
        · refine ev_neg (fun q => h2 (hb.1 q)) ?_
          by_cases h3 : 65 ≤ c ∧ c ≤ 70
          · have e : dig c = c - 55 := by unfold dig; rw [if_neg h, if_neg h2, if_pos h3]
            rw [e]
            refine ev_pos h3.1 (ev_pos h3.2 (ev_eq fun _ => ?_))
            rw [w32 (n := c - 65) (by omega) (by omega), w64 (n := c - 65) (by omega) (by omega), w64 (by omega) (by omega)]
            congr 1; omega
          · have e : dig c = -1 := by unfold dig; rw [if_neg h, if_neg h2, if_neg h3]
            rw [e]
            by_cases h4 : c ≥ 65
            · exact ev_pos h4 (ev_neg (by omega) (ev_eq fun _ => rfl))
            · exact ev_neg h4 (ev_eq fun _ => rfl)
      by_cases h5 : c ≥ 97
      · exact ev_pos h5 (j1 _ (by rw [decide_eq_true_eq]; omega))
      · exact ev_neg h5 (j1 _ (by simp; omega))
  unfold ether_digit.f
  by_cases h5 : c ≥ 48
  · exact ev_pos h5 (j0 _ (by rw [decide_eq_true_eq]; omega))
  · exact ev_neg h5 (j0 _ (by simp; omega))
theorem rdigit_all : ∀ c : Fin 256, crosswayref05_digit.f 30 (c.val : Int) = some (dig (c.val : Int)) := by decide +kernel
theorem rdigit_ev {c : Int} (h0 : 0 ≤ c) (h1 : c ≤ 255) : Ev (fun k => crosswayref05_digit.f k c) (dig c) := by
  have h := rdigit_all ⟨c.toNat, by omega⟩
  simp only [Int.toNat_of_nonneg h0] at h
  exact Ev.of (fun k => crosswayref05_digit.mono _ k) (k := 30) h
/-- What is read from a place on, with so many places to go. -/
def pm (s : ByteArray) : Nat → Int → Int × Int
  | 0, n => (IntKind.u64.wrap n, 0)
  | d + 1, n => if ((16 - d : Nat) : Int) % 3 = 2 then (if bt s ((16 - d : Nat) : Int) = 58 then pm s d n else (0, 40)) else if dig (bt s ((16 - d : Nat) : Int)) < 0 then (0, 40) else pm s d (16 * n + dig (bt s ((16 - d : Nat) : Int)))
def parseR (s : ByteArray) : Int × Int := if s.size = 17 then pm s 17 0 else (0, 40)
theorem pow_step {n d : Int} {e : Nat} (h : n < 16 ^ e) (hd : d ≤ 15) : 16 * n + d < 16 ^ (e + 1) := by rw [Int.pow_succ]; omega
theorem rparse_l0 {s : ByteArray} (hs : s.size = 17) : ∀ (d i : Nat) (n : Int), i + d = 17 → 0 ≤ n → n < 16 ^ (i - i / 3) → Ev (fun k => crosswayref05_ParseMac.l0 k s n (i : Int)) (pm s d n) := by
  intro d
  induction d with
  | zero =>
    intro i n h h0 h1
    refine Ev.step (fun k => by simp only [crosswayref05_ParseMac.l0]; rfl) ?_
    exact ev_neg (by omega) (ev_eq fun _ => rfl)
  | succ d ih =>
    intro i n h h0 h1
    refine Ev.step (fun k => by simp only [crosswayref05_ParseMac.l0]; rfl) ?_
    obtain rfl : i = 16 - d := by omega
    have hn : n < 281474976710656 := by
      have : (16 : Int) ^ (16 - d - (16 - d) / 3) ≤ 16 ^ 12 := by
        have h2 : 16 - d - (16 - d) / 3 ≤ 12 := by omega
        obtain ⟨q, hq⟩ : ∃ q, 12 = (16 - d - (16 - d) / 3) + q := ⟨12 - (16 - d - (16 - d) / 3), by omega⟩
        rw [hq, Int.pow_add]
        have p1 : (0 : Int) < 16 ^ (16 - d - (16 - d) / 3) := Int.pow_pos (by decide)
        have p2 : (0 : Int) < 16 ^ q := Int.pow_pos (by decide)
        have : (16 : Int) ^ (16 - d - (16 - d) / 3) * 1 ≤ 16 ^ (16 - d - (16 - d) / 3) * 16 ^ q := Int.mul_le_mul_of_nonneg_left (by omega) (by omega)
        omega
      rw [show (16 : Int) ^ 12 = 281474976710656 by decide] at this
      omega
    have eb := bt_range s ((16 - d : Nat) : Int)
    have ed := dig_range (bt s ((16 - d : Nat) : Int))
    have ew : wrap64 (((16 - d : Nat) : Int) + 1) = ((16 - d + 1 : Nat) : Int) := by rw [w64 (by omega) (by omega)]; omega
    rw [pm]
    rw [Int.tmod_eq_emod_of_nonneg (by omega)]
    refine ev_pos (by omega) ?_
    rw [ew]
    by_cases h3 : ((16 - d : Nat) : Int) % 3 = 2
    · rw [if_pos h3]
      refine ev_pos h3 (ev_pos (by omega) (ev_pos (by omega) ?_))
      by_cases h58 : bt s ((16 - d : Nat) : Int) = 58
      · rw [if_pos h58]
        exact ev_pos h58 (ih (16 - d + 1) n (by omega) h0 (by rw [show 16 - d + 1 - (16 - d + 1) / 3 = 16 - d - (16 - d) / 3 by omega]; exact h1))
      · rw [if_neg h58]
        exact ev_neg h58 (ev_eq fun _ => rfl)
    · rw [if_neg h3]
      refine ev_neg h3 (ev_pos (by omega) (ev_pos (by omega) (Ev.bind (rdigit_ev eb.1 eb.2) ?_)))
      by_cases hd : dig (bt s ((16 - d : Nat) : Int)) < 0
      · rw [if_pos hd]; exact ev_pos hd (ev_eq fun _ => rfl)
      · rw [if_neg hd]
        have e1 : wrap64 (wrap64 (16 * n) + dig (bt s ((16 - d : Nat) : Int))) = 16 * n + dig (bt s ((16 - d : Nat) : Int)) := by rw [w64 (n := 16 * n) (by omega) (by omega), w64 (by omega) (by omega)]
        rw [e1]
        exact ev_neg hd (ih (16 - d + 1) _ (by omega) (by omega) (by rw [show 16 - d + 1 - (16 - d + 1) / 3 = (16 - d - (16 - d) / 3) + 1 by omega]; exact pow_step h1 ed.2))
theorem rparse_ev (s : ByteArray) : Ev (fun k => crosswayref05_ParseMac.f k s) (parseR s) := by
  unfold crosswayref05_ParseMac.f parseR
  by_cases h : s.size = 17
  · rw [if_pos h]
    exact ev_pos (by omega) (rparse_l0 h 17 0 0 rfl (by decide) (by decide))
  · rw [if_neg h]
    exact ev_neg (by omega) (ev_eq fun _ => rfl)
theorem bt_nat {s : ByteArray} {pos : Nat} (h : pos < s.size) : bt s (pos : Int) = ((s[pos]'h).toNat : Int) := (bt_at s pos h).symm
theorem nx_digit {n d : Int} {at_ : Nat} (h0 : 0 ≤ n) (h1 : n < 281474976710656) (hd : 0 ≤ d ∧ d ≤ 15) (ha : at_ < 17) : ether_ParseMac.nx n d at_ = 16 * n + d := by
  unfold ether_ParseMac.nx
  rw [if_pos hd.1, if_pos (by omega), w64 (by omega) (by omega)]
  have h := bits_join .i64 63 (by decide) (fun n h0 h1 => by rw [IntKind.wrap_i64]; omega) 4 (n * 16) d (by omega) (by omega) (by omega) (by omega) (by omega) (by omega)
  rw [h]; omega
theorem parse_l {s : ByteArray} (hs : s.size = 17) : ∀ (d i : Nat) (n : Int), i + d = 17 → 0 ≤ n → n < 16 ^ (i - i / 3) → Ev (fun k => ether_ParseMac.l k s (d + 1) i n i) (pm s d n) := by
  intro d
  induction d with
  | zero =>
    intro i n h h0 h1
    refine ev_eq fun k => ?_
    rw [ether_ParseMac.l, if_neg (by omega), if_pos (by omega)]; rfl
  | succ d ih =>
    intro i n h h0 h1
    obtain rfl : i = 16 - d := by omega
    have hp : 16 - d < s.size := by omega
    have hn : n < 281474976710656 := by
      have : (16 : Int) ^ (16 - d - (16 - d) / 3) ≤ 16 ^ 12 := by
        have h2 : 16 - d - (16 - d) / 3 ≤ 12 := by omega
        obtain ⟨q, hq⟩ : ∃ q, 12 = (16 - d - (16 - d) / 3) + q := ⟨12 - (16 - d - (16 - d) / 3), by omega⟩
        rw [hq, Int.pow_add]
        have p1 : (0 : Int) < 16 ^ (16 - d - (16 - d) / 3) := Int.pow_pos (by decide)
        have p2 : (0 : Int) < 16 ^ q := Int.pow_pos (by decide)
        have : (16 : Int) ^ (16 - d - (16 - d) / 3) * 1 ≤ 16 ^ (16 - d - (16 - d) / 3) * 16 ^ q := Int.mul_le_mul_of_nonneg_left (by omega) (by omega)
        omega
      rw [show (16 : Int) ^ 12 = 281474976710656 by decide] at this
      omega
    have eb := bt_range s ((16 - d : Nat) : Int)
    have en := bt_nat hp
    simp only [ether_ParseMac.l]
    rw [pm]
    refine ev_pos hp ?_
    by_cases ha : (s[16 - d]'hp).toNat < 128
    · rw [decode_ascii s _ hp ha]
      simp only
      rw [← en]
      have ed := dig_range (bt s ((16 - d : Nat) : Int))
      refine Ev.bind (digit_ev eb.1 (by omega)) ?_
      by_cases h3 : ((16 - d : Nat) : Int) % 3 = 2
      · rw [if_pos h3]
        refine ev_pos h3 ?_
        by_cases h58 : bt s ((16 - d : Nat) : Int) = 58
        · rw [if_pos h58]
          have hnx : ether_ParseMac.nx n (dig (bt s ((16 - d : Nat) : Int))) (16 - d) = n := by rw [h58]; unfold ether_ParseMac.nx; rw [if_neg (by decide)]
          rw [hnx]
          exact ev_pos h58 (ih (16 - d + 1) n (by omega) h0 (by rw [show 16 - d + 1 - (16 - d + 1) / 3 = 16 - d - (16 - d) / 3 by omega]; exact h1))
        · rw [if_neg h58]
          exact ev_neg h58 (ev_eq fun _ => rfl)
      · rw [if_neg h3]
        refine ev_neg h3 ?_
        by_cases hd : dig (bt s ((16 - d : Nat) : Int)) < 0
        · rw [if_pos hd]
          by_cases h58 : bt s ((16 - d : Nat) : Int) = 58
          · exact ev_pos h58 (ev_eq fun _ => rfl)
          · exact ev_neg h58 (ev_pos hd (ev_eq fun _ => rfl))
        · rw [if_neg hd]
          refine ev_neg (fun q => hd (by rw [q]; decide)) (ev_neg hd ?_)
          rw [nx_digit h0 hn ⟨by omega, ed.2⟩ (by omega)]
          exact ih (16 - d + 1) _ (by omega) (by omega) (by rw [show 16 - d + 1 - (16 - d + 1) / 3 = (16 - d - (16 - d) / 3) + 1 by omega]; exact pow_step h1 ed.2)
    · have hh := decode_high s (16 - d) hp (by omega)
      have hle := decode_le s (16 - d)
      have hb58 : ¬ bt s ((16 - d : Nat) : Int) = 58 := by rw [en]; omega
      have hbd : dig (bt s ((16 - d : Nat) : Int)) < 0 := by unfold dig; rw [if_neg (by omega), if_neg (by omega), if_neg (by omega)]; decide
      refine Ev.bind (digit_ev (c := (((Utf8.decode s (16 - d)).1 : Nat) : Int)) (by omega) (by omega)) ?_
      have hcd : dig (((Utf8.decode s (16 - d)).1 : Nat) : Int) = -1 := by unfold dig; rw [if_neg (by omega), if_neg (by omega), if_neg (by omega)]
      by_cases h3 : ((16 - d : Nat) : Int) % 3 = 2
      · rw [if_pos h3, if_neg hb58]
        exact ev_pos h3 (ev_neg (by omega) (ev_eq fun _ => rfl))
      · rw [if_neg h3, if_pos hbd]
        exact ev_neg h3 (ev_neg (by omega) (ev_pos (by rw [hcd]; decide) (ev_eq fun _ => rfl)))
theorem parse_other {s : ByteArray} (hs : s.size ≠ 17) : ∀ (d pos : Nat) (n : Int), pos + d = s.size → Ev (fun k => ether_ParseMac.l k s (d + 1) pos n pos) (0, 40) := by
  intro d
  induction d with
  | zero =>
    intro i n h
    refine ev_eq fun k => ?_
    rw [ether_ParseMac.l, if_neg (by omega), if_neg (by omega)]
  | succ d ih =>
    intro i n h
    have hp : i < s.size := by omega
    have hle := decode_le s i
    simp only [ether_ParseMac.l]
    refine ev_pos hp (Ev.bind (digit_ev (c := (((Utf8.decode s i).1 : Nat) : Int)) (by omega) (by omega)) ?_)
    by_cases ha : (s[i]'hp).toNat < 128
    · rw [decode_ascii s _ hp ha]
      simp only
      by_cases h3 : (i : Int) % 3 = 2
      · refine ev_pos h3 ?_
        by_cases h58 : (((s[i]'hp).toNat : Nat) : Int) = 58
        · exact ev_pos h58 (ih (i + 1) _ (by omega))
        · exact ev_neg h58 (ev_eq fun _ => rfl)
      · refine ev_neg h3 ?_
        by_cases h58 : (((s[i]'hp).toNat : Nat) : Int) = 58
        · exact ev_pos h58 (ev_eq fun _ => rfl)
        · refine ev_neg h58 ?_
          by_cases hd : dig (((s[i]'hp).toNat : Nat) : Int) < 0
          · exact ev_pos hd (ev_eq fun _ => rfl)
          · exact ev_neg hd (ih (i + 1) _ (by omega))
    · have hh := decode_high s i hp (by omega)
      have hcd : dig (((Utf8.decode s i).1 : Nat) : Int) = -1 := by unfold dig; rw [if_neg (by omega), if_neg (by omega), if_neg (by omega)]
      by_cases h3 : (i : Int) % 3 = 2
      · exact ev_pos h3 (ev_neg (by omega) (ev_eq fun _ => rfl))
      · exact ev_neg h3 (ev_neg (by omega) (ev_pos (by rw [hcd]; decide) (ev_eq fun _ => rfl)))
theorem parse_ev {s : ByteArray} (hs : s.size ≤ 140737488355328) : Ev (fun k => ether_ParseMac.f k s) (parseR s) := by
  unfold ether_ParseMac.f parseR
  refine ev_pos hs ?_
  by_cases h : s.size = 17
  · rw [if_pos h, h]
    exact parse_l h 17 0 0 rfl (by decide) (by decide)
  · rw [if_neg h]
    exact parse_other h s.size 0 0 (by omega)
/-! A link's address told. -/
abbrev HEX : ByteArray := ⟨#[48, 49, 50, 51, 52, 53, 54, 55, 56, 57, 97, 98, 99, 100, 101, 102]⟩
def hx (d : Int) : Int := if d < 10 then 48 + d else 87 + d
theorem hx_bt : ∀ d : Fin 16, bt HEX (d.val : Int) = hx (d.val : Int) ∧ HEX.extract d.val (d.val + 1) = strOfNums [hx (d.val : Int)] := by decide +kernel
theorem hx_at {d : Int} (h : 0 ≤ d ∧ d < 16) : bt HEX d = hx d ∧ HEX.extract d.toNat ((d + 1) % 256).toNat = strOfNums [hx d] := by
  have q := hx_bt ⟨d.toNat, by omega⟩
  simp only [Int.toNat_of_nonneg h.1] at q
  rw [show ((d + 1) % 256).toNat = d.toNat + 1 by omega]
  exact q
theorem dig_hx {d : Int} (h : 0 ≤ d ∧ d < 16) : dig (hx d) = d := by
  unfold dig hx
  by_cases h1 : d < 10
  · rw [if_pos h1, if_pos (by omega)]; omega
  · rw [if_neg h1, if_neg (by omega), if_pos (by omega)]; omega
theorem hx_byte {d : Int} (h : 0 ≤ d ∧ d < 16) : 0 ≤ hx d ∧ hx d ≤ 255 := by unfold hx; split <;> omega
/-- The signs of an address, so many of its digits. -/
def E (m : Int) : Nat → List Int
  | 0 => []
  | i + 1 => (E m i ++ if 0 < i ∧ i % 2 = 0 then [58] else []) ++ [hx (m / 16 ^ (11 - i) % 16)]
theorem E_length (m : Int) : ∀ i, (E m i).length ≤ 2 * i
  | 0 => Nat.le_refl _
  | i + 1 => by
    have := E_length m i
    rw [E, List.length_append, List.length_append, List.length_singleton]
    split
    · rw [List.length_singleton]; omega
    · rw [List.length_nil]; omega
theorem E_bytes (m : Int) : ∀ i, Bytes (E m i)
  | 0 => Bytes.nil
  | i + 1 => by
    rw [E]
    refine Bytes.append (Bytes.append (E_bytes m i) ?_) ?_
    · split
      · intro x hx; rw [List.mem_singleton] at hx; omega
      · exact Bytes.nil
    · intro x hx; rw [List.mem_singleton] at hx; rw [hx]; exact hx_byte (by omega)
theorem wraps64 (n : Int) (h0 : 0 ≤ n) (h1 : n < 2 ^ 64) : IntKind.u64.wrap n = n := wu64 h0 (by omega)
theorem shr4 (n : Int) (j : Nat) (hj : j ≤ 11) : shr .u64 n ((4 * j : Nat) : Int) = n / 16 ^ j := by
  unfold shr
  rw [Int.toNat_natCast, Nat.min_eq_left (by simp [IntKind.bits]; omega), Int.pow_mul]; rfl
theorem low4 {x : Int} (h0 : 0 ≤ x) (h1 : x ≤ 18446744073709551615) : Go.bits .and .u64 x 15 = x % 16 := by
  have h := bits_mask .u64 64 (by decide) wraps64 4 (by decide) x h0 (by omega)
  rw [show (2 : Int) ^ 4 - 1 = 15 by decide, show (2 : Int) ^ 4 = 16 by decide] at h
  exact h
theorem print_l0 {m : Int} (h0 : 0 ≤ m) (h1 : m < 281474976710656) : ∀ d i : Nat, i + d = 12 → Ev (fun k => ether_PrintMac.l0 k m (E m i) (i : Int)) (strOfNums (E m 12)) := by
  intro d
  induction d with
  | zero =>
    intro i h
    obtain rfl : i = 12 := by omega
    refine Ev.step (fun k => by simp only [ether_PrintMac.l0]; rfl) ?_
    exact ev_neg (by omega) (ev_eq fun _ => rfl)
  | succ d ih =>
    intro i h
    have hi := ih (i + 1) (by omega)
    have hl := E_length m i
    have ew : wrap64 ((i : Int) + 1) = ((i + 1 : Nat) : Int) := by rw [w64 (by omega) (by omega)]; omega
    have es : wrap64 (44 - wrap64 (4 * (i : Int))) = ((4 * (11 - i) : Nat) : Int) := by rw [w64 (n := 4 * (i : Int)) (by omega) (by omega), w64 (by omega) (by omega)]; omega
    have hq0 : 0 ≤ m / 16 ^ (11 - i) := Int.ediv_nonneg h0 (Int.le_of_lt (Int.pow_pos (by decide)))
    have hq1 : m / 16 ^ (11 - i) ≤ m := Int.ediv_le_self _ h0
    have ed : Go.bits .and .u64 (shr .u64 m ((4 * (11 - i) : Nat) : Int)) 15 = m / 16 ^ (11 - i) % 16 := by rw [shr4 m _ (by omega)]; exact low4 hq0 (by omega)
    obtain ⟨u, hu⟩ : ∃ u, m / 16 ^ (11 - i) % 16 = u := ⟨_, rfl⟩
    have hur : 0 ≤ u ∧ u < 16 := by omega
    have hx_ := (hx_at hur).1
    refine Ev.step (fun k => by simp only [ether_PrintMac.l0]; rfl) ?_
    rw [es, ed, hu, ew, Int.tmod_eq_emod_of_nonneg (by omega)]
    clear es ed ew hq0 hq1
    refine ev_pos (by omega) ?_
    rw [E, hu] at hi
    by_cases hp : (i : Int) > 0
    · refine ev_pos hp ?_
      by_cases h2 : (i : Int) % 2 = 0
      · rw [if_pos (by omega)] at hi
        refine ev_pos h2 (ev_pos (by omega) (ev_bind rfl (ev_pos (by omega) (ev_pos hur.1 (ev_pos hur.2 (ev_pos (by simp only [List.length_append, List.length_singleton]; omega) ?_))))))
        rw [show bt (⟨#[48, 49, 50, 51, 52, 53, 54, 55, 56, 57, 97, 98, 99, 100, 101, 102]⟩ : ByteArray) u = hx u from hx_]
        exact hi
      · rw [if_neg (by omega), List.append_nil] at hi
        refine ev_neg h2 (ev_pos (by omega) (ev_pos hur.1 (ev_pos hur.2 (ev_pos (by omega) ?_))))
        rw [show bt (⟨#[48, 49, 50, 51, 52, 53, 54, 55, 56, 57, 97, 98, 99, 100, 101, 102]⟩ : ByteArray) u = hx u from hx_]
        exact hi
    · rw [if_neg (by omega), List.append_nil] at hi
      refine ev_neg hp (ev_pos (by omega) (ev_pos hur.1 (ev_pos hur.2 (ev_pos (by omega) ?_))))
      rw [show bt (⟨#[48, 49, 50, 51, 52, 53, 54, 55, 56, 57, 97, 98, 99, 100, 101, 102]⟩ : ByteArray) u = hx u from hx_]
      exact hi
def printR (m : Int) : ByteArray := if m ≥ 281474976710656 then ⟨#[]⟩ else strOfNums (E m 12)
theorem print_ev {m : Int} (h0 : 0 ≤ m) : Ev (fun k => ether_PrintMac.f k m) (printR m) := by
  unfold ether_PrintMac.f printR
  by_cases h : m ≥ 281474976710656
  · rw [if_pos h]; exact ev_pos h (ev_eq fun _ => rfl)
  · rw [if_neg h]; exact ev_neg h (print_l0 h0 (by omega) 12 0 rfl)
theorem nums_cat {a b : List Int} (ha : Bytes a) (hb : Bytes b) : strOfNums a ++ strOfNums b = strOfNums (a ++ b) := by
  apply MBytes.inj
  rw [MBytes.append, MBytes.ofNums ha, MBytes.ofNums hb, MBytes.ofNums (ha.append hb)]
theorem one_byte {x : Int} (h : 0 ≤ x ∧ x ≤ 255) : Bytes [x] := by intro y hy; rw [List.mem_singleton] at hy; rw [hy]; exact h
theorem rprint_step {m : Int} (h0 : 0 ≤ m) {j : Nat} {c u v : Int} (hc : rd (be m 6) (j : Int) = c) (hu : c / 16 = u) (hv : c % 16 = v) (hr : 0 ≤ c ∧ c ≤ 255) (hj : j < 6) (X : List Int) (hX : X.length ≤ 100) (hXb : Bytes X) (r : ByteArray)
    (h : Ev (fun k => crosswayref05_PrintMac.l0 k (be m 6) (strOfNums (((if 0 < j then X ++ [58] else X) ++ [hx u]) ++ [hx v])) ((j + 1 : Nat) : Int)) r) : Ev (fun k => crosswayref05_PrintMac.l0 k (be m 6) (strOfNums X) (j : Int)) r := by
  have ew : wrap64 ((j : Int) + 1) = ((j + 1 : Nat) : Int) := by rw [w64 (by omega) (by omega)]; omega
  have hur : 0 ≤ u ∧ u < 16 := by omega
  have hvr : 0 ≤ v ∧ v < 16 := by omega
  have hxu := (hx_at hur).2; have hxv := (hx_at hvr).2
  have bu := hx_byte hur; have bv := hx_byte hvr
  have e1 : Int.tdiv c 16 % 256 = u := by rw [Int.tdiv_eq_ediv_of_nonneg hr.1]; omega
  have e2 : Int.tmod c 16 = v := by rw [Int.tmod_eq_emod_of_nonneg hr.1]; exact hv
  have hlen : (j : Int) < ((be m 6).length : Int) := by rw [be_length]; omega
  have z : ∀ l : List Int, (strOfNums l).size = l.length := MBytes.size_ofNums
  refine Ev.step (fun k => by simp only [crosswayref05_PrintMac.l0]; rfl) ?_
  rw [hc, e1, e2, ew]
  refine ev_pos (by omega) ?_
  rw [show (⟨#[48, 49, 50, 51, 52, 53, 54, 55, 56, 57, 97, 98, 99, 100, 101, 102]⟩ : ByteArray).extract u.toNat ((u + 1) % 256).toNat = strOfNums [hx u] from hxu,
    show (⟨#[48, 49, 50, 51, 52, 53, 54, 55, 56, 57, 97, 98, 99, 100, 101, 102]⟩ : ByteArray).extract v.toNat ((v + 1) % 256).toNat = strOfNums [hx v] from hxv,
    show (⟨#[58]⟩ : ByteArray) = strOfNums [58] by decide +kernel]
  by_cases hp : (j : Int) > 0
  · rw [if_pos (by omega)] at h
    refine ev_pos hp ?_
    rw [nums_cat hXb (one_byte (by decide)), nums_cat (hXb.append (one_byte (by decide))) (one_byte bu), nums_cat ((hXb.append (one_byte (by decide))).append (one_byte bu)) (one_byte bv)]
    simp only [z, List.length_append, List.length_singleton]
    exact ev_pos (by omega) (ev_pos (by omega) (ev_pos hlen (ev_pos hur.1 (ev_pos (by omega) (ev_pos (by omega) (ev_pos (by omega) (ev_pos hvr.1 (ev_pos (by omega) (ev_pos (by omega) (ev_pos (by omega) h))))))))))
  · rw [if_neg (by omega)] at h
    refine ev_neg hp ?_
    rw [nums_cat hXb (one_byte bu), nums_cat (hXb.append (one_byte bu)) (one_byte bv)]
    simp only [z, List.length_append, List.length_singleton]
    exact ev_pos (by omega) (ev_pos hlen (ev_pos hur.1 (ev_pos (by omega) (ev_pos (by omega) (ev_pos (by omega) (ev_pos hvr.1 (ev_pos (by omega) (ev_pos (by omega) (ev_pos (by omega) h)))))))))
theorem E_two (m : Int) (j : Nat) (hj : j < 6) : E m (2 * (j + 1)) = ((if 0 < j then E m (2 * j) ++ [58] else E m (2 * j)) ++ [hx (m / 16 ^ (11 - 2 * j) % 16)]) ++ [hx (m / 16 ^ (10 - 2 * j) % 16)] := by
  have a1 : E m (2 * j + 1 + 1) = (E m (2 * j + 1) ++ if 0 < 2 * j + 1 ∧ (2 * j + 1) % 2 = 0 then [58] else []) ++ [hx (m / 16 ^ (11 - (2 * j + 1)) % 16)] := rfl
  have a2 : E m (2 * j + 1) = (E m (2 * j) ++ if 0 < 2 * j ∧ (2 * j) % 2 = 0 then [58] else []) ++ [hx (m / 16 ^ (11 - 2 * j) % 16)] := rfl
  rw [if_neg (by omega), List.append_nil, show 11 - (2 * j + 1) = 10 - 2 * j by omega] at a1
  rw [show 2 * (j + 1) = 2 * j + 1 + 1 by omega, a1, a2]
  by_cases h : 0 < j
  · rw [if_pos (by omega), if_pos h]
  · rw [if_neg (by omega), if_neg h, List.append_nil]
theorem rprint_l0 {m : Int} (h0 : 0 ≤ m) (h1 : m < 281474976710656) : ∀ d j : Nat, j + d = 6 → Ev (fun k => crosswayref05_PrintMac.l0 k (be m 6) (strOfNums (E m (2 * j))) (j : Int)) (strOfNums (E m 12)) := by
  intro d
  induction d with
  | zero =>
    intro j h
    obtain rfl : j = 6 := by omega
    refine Ev.step (fun k => by simp only [crosswayref05_PrintMac.l0]; rfl) ?_
    exact ev_neg (by omega) (ev_eq fun _ => rfl)
  | succ d ih =>
    intro j h
    have hi := ih (j + 1) (by omega)
    rw [E_two m j (by omega)] at hi
    have hX := E_length m (2 * j)
    have hB := E_bytes m (2 * j)
    generalize E m (2 * j) = X at *
    rcases (show j = 0 ∨ j = 1 ∨ j = 2 ∨ j = 3 ∨ j = 4 ∨ j = 5 by omega) with rfl | rfl | rfl | rfl | rfl | rfl
    · exact rprint_step h0 (c := m / 256 ^ 5 % 256) rfl (by omega) (by omega) (by omega) (by decide) X (by omega) hB _ hi
    · exact rprint_step h0 (c := m / 256 ^ 4 % 256) rfl (by omega) (by omega) (by omega) (by decide) X (by omega) hB _ hi
    · exact rprint_step h0 (c := m / 256 ^ 3 % 256) rfl (by omega) (by omega) (by omega) (by decide) X (by omega) hB _ hi
    · exact rprint_step h0 (c := m / 256 ^ 2 % 256) rfl (by omega) (by omega) (by omega) (by decide) X (by omega) hB _ hi
    · exact rprint_step h0 (c := m / 256 ^ 1 % 256) rfl (by omega) (by omega) (by omega) (by decide) X (by omega) hB _ hi
    · exact rprint_step h0 (c := m / 256 ^ 0 % 256) rfl (by omega) (by omega) (by omega) (by decide) X (by omega) hB _ hi
theorem rprint_ev {m : Int} (hm : 0 ≤ m ∧ m ≤ 18446744073709551615) : Ev (fun k => crosswayref05_PrintMac.f k m) (printR m) := by
  unfold crosswayref05_PrintMac.f crosswayref05_mac.f printR
  refine ev_bind rfl ?_
  by_cases h : m ≥ 281474976710656
  · rw [if_pos h]; exact ev_neg (by simp; omega) (ev_eq fun _ => rfl)
  · rw [if_neg h]
    have p1 := rput_ev (l := []) (w := 6) (n := m) (by simp) hm
    rw [show octet_Put.wid 6 = 6 from rfl, List.nil_append] at p1
    refine ev_pos (decide_eq_true (by omega)) (Ev.bind p1 ?_)
    exact rprint_l0 hm.1 (by omega) 6 0 rfl
theorem pm_digit {s : ByteArray} {d : Nat} {n u : Int} {i : Nat} (hi : 16 - d = i) (h3 : ¬ (i : Int) % 3 = 2) (hb : bt s (i : Int) = hx u) (hu : 0 ≤ u ∧ u < 16) {n2 : Int} (hn : 16 * n + u = n2) : pm s (d + 1) n = pm s d n2 := by
  subst hi
  rw [pm, if_neg h3, hb, dig_hx hu, if_neg (by omega), hn]
theorem pm_colon {s : ByteArray} {d : Nat} {n : Int} {i : Nat} (hi : 16 - d = i) (h3 : (i : Int) % 3 = 2) (hb : bt s (i : Int) = 58) : pm s (d + 1) n = pm s d n := by
  subst hi
  rw [pm, if_pos h3, if_pos hb]
theorem E2_0 (m : Int) : E m 2 = [hx (m / 16 ^ 11 % 16)] ++ [hx (m / 16 ^ 10 % 16)] := by
  have h := E_two m 0 (by decide)
  rw [if_neg (by decide)] at h
  exact h
theorem E2_1 (m : Int) : E m 4 = ((E m 2 ++ [58]) ++ [hx (m / 16 ^ 9 % 16)]) ++ [hx (m / 16 ^ 8 % 16)] := by
  have h := E_two m 1 (by decide)
  rw [if_pos (by decide)] at h
  exact h
theorem E2_2 (m : Int) : E m 6 = ((E m 4 ++ [58]) ++ [hx (m / 16 ^ 7 % 16)]) ++ [hx (m / 16 ^ 6 % 16)] := by
  have h := E_two m 2 (by decide)
  rw [if_pos (by decide)] at h
  exact h
theorem E2_3 (m : Int) : E m 8 = ((E m 6 ++ [58]) ++ [hx (m / 16 ^ 5 % 16)]) ++ [hx (m / 16 ^ 4 % 16)] := by
  have h := E_two m 3 (by decide)
  rw [if_pos (by decide)] at h
  exact h
theorem E2_4 (m : Int) : E m 10 = ((E m 8 ++ [58]) ++ [hx (m / 16 ^ 3 % 16)]) ++ [hx (m / 16 ^ 2 % 16)] := by
  have h := E_two m 4 (by decide)
  rw [if_pos (by decide)] at h
  exact h
theorem E2_5 (m : Int) : E m 12 = ((E m 10 ++ [58]) ++ [hx (m / 16 ^ 1 % 16)]) ++ [hx (m / 16 ^ 0 % 16)] := by
  have h := E_two m 5 (by decide)
  rw [if_pos (by decide)] at h
  exact h
theorem E12 (m : Int) : E m 12 = [hx (m / 16 ^ 11 % 16), hx (m / 16 ^ 10 % 16), 58, hx (m / 16 ^ 9 % 16), hx (m / 16 ^ 8 % 16), 58, hx (m / 16 ^ 7 % 16), hx (m / 16 ^ 6 % 16), 58, hx (m / 16 ^ 5 % 16), hx (m / 16 ^ 4 % 16), 58, hx (m / 16 ^ 3 % 16), hx (m / 16 ^ 2 % 16), 58, hx (m / 16 ^ 1 % 16), hx (m / 16 ^ 0 % 16)] := by
  rw [E2_5, E2_4, E2_3, E2_2, E2_1, E2_0]
  simp only [List.append_assoc, List.cons_append, List.nil_append]
theorem told_back {m : Int} (h0 : 0 ≤ m) (h1 : m < 281474976710656) : parseR (strOfNums (E m 12)) = (m, 0) := by
  have hz : (strOfNums (E m 12)).size = 17 := by rw [MBytes.size_ofNums, E12]; rfl
  have hb : bytesOf (strOfNums (E m 12)) = E m 12 := MBytes.ofNums (E_bytes m 12)
  unfold parseR
  rw [if_pos hz]
  generalize strOfNums (E m 12) = S at *
  have B : ∀ i : Nat, bt S (i : Int) = rd (E m 12) (i : Int) := fun i => by rw [← rd_bytesOf, hb]
  rw [E12] at B
  rw [pm_digit (i := 0) rfl (by decide) (B 0) (by omega) (n2 := m / 16 ^ 11) (by omega), pm_digit (i := 1) rfl (by decide) (B 1) (by omega) (n2 := m / 16 ^ 10) (by omega), pm_colon (i := 2) rfl (by decide) (B 2),
    pm_digit (i := 3) rfl (by decide) (B 3) (by omega) (n2 := m / 16 ^ 9) (by omega), pm_digit (i := 4) rfl (by decide) (B 4) (by omega) (n2 := m / 16 ^ 8) (by omega), pm_colon (i := 5) rfl (by decide) (B 5),
    pm_digit (i := 6) rfl (by decide) (B 6) (by omega) (n2 := m / 16 ^ 7) (by omega), pm_digit (i := 7) rfl (by decide) (B 7) (by omega) (n2 := m / 16 ^ 6) (by omega), pm_colon (i := 8) rfl (by decide) (B 8),
    pm_digit (i := 9) rfl (by decide) (B 9) (by omega) (n2 := m / 16 ^ 5) (by omega), pm_digit (i := 10) rfl (by decide) (B 10) (by omega) (n2 := m / 16 ^ 4) (by omega), pm_colon (i := 11) rfl (by decide) (B 11),
    pm_digit (i := 12) rfl (by decide) (B 12) (by omega) (n2 := m / 16 ^ 3) (by omega), pm_digit (i := 13) rfl (by decide) (B 13) (by omega) (n2 := m / 16 ^ 2) (by omega), pm_colon (i := 14) rfl (by decide) (B 14),
    pm_digit (i := 15) rfl (by decide) (B 15) (by omega) (n2 := m / 16 ^ 1) (by omega), pm_digit (i := 16) rfl (by decide) (B 16) (by omega) (n2 := m) (by omega), pm, wu64 h0 (by omega)]
theorem macs_j0 {m : Int} (hm : 0 ≤ m ∧ m ≤ 18446744073709551615) : Ev (fun k => crosswaylaw05_EtherMacs.j0 k m true (printR m) false) true := by
  refine Ev.step (fun k => by simp only [crosswaylaw05_EtherMacs.j0]; rfl) ?_
  refine ev_neg (by decide) ?_
  by_cases h : m ≥ 281474976710656
  · have e : printR m = ⟨#[]⟩ := by unfold printR; rw [if_pos h]
    rw [e]
    exact ev_pos (by decide +kernel) (ev_pos (by first | exact True.intro | exact rfl) (ev_eq fun _ => by rw [decide_eq_true h]))
  · have e : printR m = strOfNums (E m 12) := by unfold printR; rw [if_neg h]
    have hz : (strOfNums (E m 12)).size = 17 := by rw [MBytes.size_ofNums, E12]; rfl
    rw [e]
    have hne : ¬ (strOfNums (E m 12)).toList = ([] : List UInt8) := by
      intro q
      have q2 := congrArg List.length q
      rw [ByteArray.toList_eq, data_length, hz] at q2
      cases q2
    have hp := parse_ev (s := strOfNums (E m 12)) (by omega)
    rw [told_back hm.1 (by omega)] at hp
    exact ev_neg hne (Ev.bind hp (ev_pos (by first | exact True.intro | exact rfl) (ev_pos rfl (ev_eq fun _ => by simp))))
theorem EtherMacs (s : ByteArray) (m : Int) (hs : s.size ≤ 140737488351232) (w1 : (Lit.int .u64 m).wf = true) : ∃ k, crosswaylaw05_EtherMacs.f k s m = some true := by
  have hm := u64_of_wf w1
  refine Ev.rounds (r := true) ?_
  unfold crosswaylaw05_EtherMacs.f
  refine Ev.bind awake_ev (Ev.bind (parse_ev (s := s) (by omega)) (Ev.bind (rparse_ev s) (Ev.bind (print_ev hm.1) (ev_pos rfl (ev_pos rfl (Ev.bind (rprint_ev hm) ?_))))))
  rw [show ((printR m).toList != (printR m).toList) = false by simp]
  exact macs_j0 hm
end Go.Proofs.YthajbaheejdoaaaDoor.Pure
