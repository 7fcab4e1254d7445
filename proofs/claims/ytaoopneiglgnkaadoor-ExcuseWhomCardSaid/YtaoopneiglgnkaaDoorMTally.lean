/-
  Plain mathematics of the Internet checksum: sums of 16 bits with the carry at the low end, over lists of bytes as integers. No program in sight.
-/
set_option linter.unusedVariables false
namespace Go.Proofs.YtaoopneiglgnkaaDoor.MTally

/-- Addition with the carry brought round to the low end. -/
def oadd (a b : Int) : Int := if a + b > 65535 then a + b - 65535 else a + b
/-- A number of sixteen bits. -/
def R (a : Int) : Prop := 0 ≤ a ∧ a ≤ 65535
/-- All elements are bytes. -/
def Bytes (l : List Int) : Prop := ∀ x ∈ l, 0 ≤ x ∧ x ≤ 255

theorem oadd_R {a b : Int} (ha : R a) (hb : R b) : R (oadd a b) := by
  unfold R oadd at *; split <;> omega
theorem oadd_comm (a b : Int) : oadd a b = oadd b a := by
  unfold oadd; rw [Int.add_comm]
theorem oadd_assoc {a b c : Int} (ha : R a) (hb : R b) (hc : R c) : oadd (oadd a b) c = oadd a (oadd b c) := by
  unfold R oadd at *
  by_cases h1 : a + b > 65535 <;> by_cases h2 : b + c > 65535 <;> simp only [h1, h2, if_true, if_false] <;> (repeat' split) <;> omega
theorem oadd_zero {a : Int} (ha : R a) : oadd a 0 = a := by unfold R oadd at *; split <;> omega
theorem zero_oadd {a : Int} (ha : R a) : oadd 0 a = a := by unfold R oadd at *; split <;> omega
theorem oadd_eq_zero {a b : Int} (ha : R a) (hb : R b) : oadd a b = 0 ↔ a = 0 ∧ b = 0 := by
  unfold R oadd at *; split <;> omega
theorem R_zero : R 0 := by unfold R; omega
theorem R_full : R 65535 := by unfold R; omega
theorem R_compl {a : Int} (ha : R a) : R (65535 - a) := by unfold R at *; omega
theorem oadd_compl {a : Int} (ha : R a) : oadd a (65535 - a) = 65535 := by unfold R oadd at *; split <;> omega
theorem oadd_full {a : Int} (ha : R a) (h : a ≠ 0) : oadd a 65535 = a := by unfold R oadd at *; split <;> omega

theorem Bytes.nil : Bytes [] := fun _ h => by cases h
theorem Bytes.head {a : Int} {l : List Int} (h : Bytes (a :: l)) : 0 ≤ a ∧ a ≤ 255 := h a (List.mem_cons_self ..)
theorem Bytes.tail {a : Int} {l : List Int} (h : Bytes (a :: l)) : Bytes l := fun x hx => h x (List.mem_cons_of_mem _ hx)
theorem Bytes.cons {a : Int} {l : List Int} (ha : 0 ≤ a ∧ a ≤ 255) (h : Bytes l) : Bytes (a :: l) := fun x hx => by
  rcases List.mem_cons.1 hx with rfl | hx
  · exact ha
  · exact h x hx
theorem Bytes.append {l m : List Int} (hl : Bytes l) (hm : Bytes m) : Bytes (l ++ m) := fun x hx => by
  rcases List.mem_append.1 hx with hx | hx
  · exact hl x hx
  · exact hm x hx
theorem Bytes.left {l m : List Int} (h : Bytes (l ++ m)) : Bytes l := fun x hx => h x (List.mem_append_left _ hx)
theorem Bytes.right {l m : List Int} (h : Bytes (l ++ m)) : Bytes m := fun x hx => h x (List.mem_append_right _ hx)
theorem Bytes.take {l : List Int} (h : Bytes l) (n : Nat) : Bytes (l.take n) := fun x hx => h x (List.mem_of_mem_take hx)
theorem Bytes.drop {l : List Int} (h : Bytes l) (n : Nat) : Bytes (l.drop n) := fun x hx => h x (List.mem_of_mem_drop hx)

/-- The sum of the words of some bytes. -/
def S : List Int → Int
  | [] => 0
  | [a] => a * 256
  | a :: b :: l => oadd (a * 256 + b) (S l)

/-- The sum as the program goes: byte by byte, high and low in turn. -/
def sumB : Int → Bool → List Int → Int
  | n, _, [] => n
  | n, true, c :: l => sumB (oadd n (c * 256)) false l
  | n, false, c :: l => sumB (oadd n c) true l

theorem S_R : ∀ {l : List Int}, Bytes l → R (S l)
  | [], _ => R_zero
  | [a], h => by have := h.head; unfold S R; omega
  | a :: b :: l, h => by
    have h1 := h.head; have h2 := h.tail.head
    exact oadd_R (by unfold R; omega) (S_R h.tail.tail)

theorem sumB_R : ∀ {l : List Int} {n : Int} {hi : Bool}, R n → Bytes l → R (sumB n hi l)
  | [], _, _, hn, _ => hn
  | c :: l, n, true, hn, h => by have := h.head; exact sumB_R (l := l) (oadd_R hn (by unfold R; omega)) h.tail
  | c :: l, n, false, hn, h => by have := h.head; exact sumB_R (l := l) (oadd_R hn (by unfold R; omega)) h.tail

theorem sumB_eq : ∀ {l : List Int} {n : Int}, R n → Bytes l → sumB n true l = oadd n (S l)
  | [], n, hn, _ => by simp only [sumB, S]; exact (oadd_zero hn).symm
  | [a], n, hn, h => by simp only [sumB, S]
  | a :: b :: l, n, hn, h => by
    have h1 := h.head; have h2 := h.tail.head
    have ra : R (a * 256) := by unfold R; omega
    have rb : R b := by unfold R; omega
    have rab : R (a * 256 + b) := by unfold R; omega
    have e : oadd (a * 256) b = a * 256 + b := by unfold oadd; split <;> omega
    simp only [sumB, S]
    rw [sumB_eq (l := l) (oadd_R (oadd_R hn ra) rb) h.tail.tail, oadd_assoc hn ra rb, e, oadd_assoc hn rab (S_R h.tail.tail)]

theorem sumB_S {l : List Int} (h : Bytes l) : sumB 0 true l = S l := by
  rw [sumB_eq R_zero h, zero_oadd (S_R h)]

theorem sumB_append : ∀ (l m : List Int) (n : Int) (hi : Bool), sumB n hi (l ++ m) = sumB (sumB n hi l) (if l.length % 2 = 0 then hi else !hi) m
  | [], m, n, hi => by simp [sumB]
  | c :: l, m, n, true => by
    simp only [List.cons_append, sumB, List.length_cons]
    rw [sumB_append l m]
    by_cases h : l.length % 2 = 0
    · rw [if_pos h, if_neg (by omega)]; rfl
    · rw [if_neg h, if_pos (by omega)]; rfl
  | c :: l, m, n, false => by
    simp only [List.cons_append, sumB, List.length_cons]
    rw [sumB_append l m]
    by_cases h : l.length % 2 = 0
    · rw [if_pos h, if_neg (by omega)]; rfl
    · rw [if_neg h, if_pos (by omega)]; rfl

theorem S_append : ∀ {l m : List Int}, l.length % 2 = 0 → Bytes l → Bytes m → S (l ++ m) = oadd (S l) (S m)
  | [], m, _, _, hm => by simp only [List.nil_append, S]; exact (zero_oadd (S_R hm)).symm
  | [a], m, h, _, _ => by simp at h
  | a :: b :: l, m, h, hl, hm => by
    have h1 := hl.head; have h2 := hl.tail.head
    simp only [List.cons_append, S]
    rw [S_append (l := l) (by simp only [List.length_cons] at h; omega) hl.tail.tail hm, oadd_assoc (by unfold R; omega) (S_R hl.tail.tail) (S_R hm)]

theorem S_eq_zero : ∀ {l : List Int}, Bytes l → (S l = 0 ↔ ∀ x ∈ l, x = 0)
  | [], _ => by simp [S]
  | [a], h => by have := h.head; simp [S]; try omega
  | a :: b :: l, h => by
    have h1 := h.head; have h2 := h.tail.head
    simp only [S, List.mem_cons, forall_eq_or_imp]
    rw [oadd_eq_zero (by unfold R; omega) (S_R h.tail.tail), S_eq_zero (l := l) h.tail.tail]
    constructor
    · rintro ⟨h3, h4⟩; exact ⟨by omega, by omega, h4⟩
    · rintro ⟨h3, h4, h5⟩; exact ⟨by omega, h5⟩

/-- A word turned round. -/
def swap (x : Int) : Int := x % 256 * 256 + x / 256
theorem swap_oadd {a b : Int} (ha : R a) (hb : R b) : swap (oadd a b) = oadd (swap a) (swap b) := by
  unfold R at ha hb
  unfold swap oadd
  by_cases h : a + b > 65535
  · rw [if_pos h]; split <;> omega
  · rw [if_neg h]; split <;> omega

/-- All words turned round. -/
def turn : List Int → List Int
  | a :: b :: l => b :: a :: turn l
  | l => l
theorem turn_length : ∀ l : List Int, (turn l).length = l.length
  | [] => rfl
  | [a] => rfl
  | a :: b :: l => by simp [turn, turn_length l]
theorem turn_bytes : ∀ {l : List Int}, Bytes l → Bytes (turn l)
  | [], h => h
  | [a], h => h
  | a :: b :: l, h => Bytes.cons h.tail.head (Bytes.cons h.head (turn_bytes h.tail.tail))
theorem S_turn : ∀ {l : List Int}, l.length % 2 = 0 → Bytes l → S (turn l) = swap (S l)
  | [], _, _ => by simp [turn, S, swap]
  | [a], h, _ => by simp at h
  | a :: b :: l, h, hl => by
    have h1 := hl.head; have h2 := hl.tail.head
    simp only [turn, S]
    rw [S_turn (l := l) (by simp only [List.length_cons] at h; omega) hl.tail.tail, swap_oadd (by unfold R; omega) (S_R hl.tail.tail)]
    congr 1
    unfold swap; omega

/-- The words as the document's text makes them. -/
def words : List Int → List Int
  | [] => []
  | [a] => [a * 256]
  | a :: b :: l => (a * 256 + b) :: words l
theorem words_R : ∀ {l : List Int}, Bytes l → ∀ x ∈ words l, R x
  | [], _, x, hx => by cases hx
  | [a], h, x, hx => by have := h.head; simp [words] at hx; subst hx; unfold R; omega
  | a :: b :: l, h, x, hx => by
    have h1 := h.head; have h2 := h.tail.head
    simp only [words, List.mem_cons] at hx
    rcases hx with rfl | hx
    · unfold R; omega
    · exact words_R h.tail.tail x hx
theorem words_length : ∀ l : List Int, (words l).length = (l.length + 1) / 2
  | [] => rfl
  | [a] => by simp [words]
  | a :: b :: l => by simp only [words, List.length_cons, words_length l]; omega
theorem fold_words : ∀ {l : List Int} {n : Int}, R n → Bytes l → (words l).foldl oadd n = oadd n (S l)
  | [], n, hn, _ => by simp only [words, S, List.foldl]; exact (oadd_zero hn).symm
  | [a], n, hn, h => by simp only [words, S, List.foldl]
  | a :: b :: l, n, hn, h => by
    have h1 := h.head; have h2 := h.tail.head
    have rab : R (a * 256 + b) := by unfold R; omega
    simp only [words, S, List.foldl]
    rw [fold_words (l := l) (oadd_R hn rab) h.tail.tail, oadd_assoc hn rab (S_R h.tail.tail)]
theorem fold_words_S {l : List Int} (h : Bytes l) : (words l).foldl oadd 0 = S l := by
  rw [fold_words R_zero h, zero_oadd (S_R h)]

/-- Bytes with a word at an even place: the sum of the others, and the word. -/
theorem S_word {l m : List Int} {a b : Int} (hl : l.length % 2 = 0) (bl : Bytes l) (bm : Bytes m) (ha : 0 ≤ a ∧ a ≤ 255) (hb : 0 ≤ b ∧ b ≤ 255) :
    S (l ++ a :: b :: m) = oadd (oadd (S l) (S m)) (a * 256 + b) := by
  have rw_ : R (a * 256 + b) := by unfold R; omega
  rw [S_append hl bl (Bytes.cons ha (Bytes.cons hb bm))]
  simp only [S]
  rw [oadd_comm (a * 256 + b), ← oadd_assoc (S_R bl) (S_R bm) rw_]

end Go.Proofs.YtaoopneiglgnkaaDoor.MTally
