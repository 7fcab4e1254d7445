/-
  Plain mathematics of numbers laid as bytes, the most significant one first. No program in sight.
-/
set_option linter.unusedVariables false
namespace Go.Proofs.YtaoopneiglgnkaaDoor.MBe

/-- The lowest w bytes of a number, the most significant one first. -/
def be (n : Int) : Nat → List Int
  | 0 => []
  | w + 1 => (n / 256 ^ w % 256) :: be n w
theorem be_length (n : Int) : ∀ w, (be n w).length = w
  | 0 => rfl
  | w + 1 => by simp [be, be_length n w]
theorem be_bytes (n : Int) : ∀ w, ∀ x ∈ be n w, 0 ≤ x ∧ x ≤ 255
  | 0 => fun x h => by cases h
  | w + 1 => fun x h => by
    simp only [be, List.mem_cons] at h
    rcases h with rfl | h
    · omega
    · exact be_bytes n w x h
theorem pow_pos (w : Nat) : (0 : Int) < 256 ^ w := Int.pow_pos (by omega)
theorem div_div (n : Int) (w : Nat) : n / 256 ^ w / 256 = n / 256 ^ (w + 1) := by
  rw [Int.pow_succ, Int.ediv_ediv_of_nonneg (Int.le_of_lt (pow_pos w))]

/-- What a reader makes of bytes: the number that they stand for. -/
def num (l : List Int) : Int := l.foldl (fun n c => n * 256 + c) 0
theorem foldl_num (l : List Int) : ∀ n : Int, l.foldl (fun n c => n * 256 + c) n = n * 256 ^ l.length + num l := by
  induction l with
  | nil => intro n; simp [num]
  | cons c l ih =>
    intro n
    simp only [num, List.foldl, List.length_cons]
    rw [ih, ih (0 * 256 + c), Int.pow_succ, Int.zero_mul, Int.zero_add, Int.add_mul, Int.mul_assoc, Int.mul_comm 256, Int.add_assoc]
theorem num_cons (c : Int) (l : List Int) : num (c :: l) = c * 256 ^ l.length + num l := by
  have := foldl_num l c
  simp only [num, List.foldl, Int.zero_mul, Int.zero_add]
  exact this
theorem num_nil : num [] = 0 := rfl
theorem num_snoc (l : List Int) (c : Int) : num (l ++ [c]) = num l * 256 + c := by simp [num]
theorem num_append (l m : List Int) : num (l ++ m) = num l * 256 ^ m.length + num m := by
  induction l with
  | nil => simp [num_nil]
  | cons a l ih =>
    rw [List.cons_append, num_cons, num_cons, ih, List.length_append, Int.pow_add, Int.add_mul, Int.mul_assoc, Int.add_assoc]
theorem num_range : ∀ {l : List Int}, (∀ x ∈ l, 0 ≤ x ∧ x ≤ 255) → 0 ≤ num l ∧ num l < 256 ^ l.length
  | [], _ => by simp [num_nil]
  | c :: l, h => by
    have hc := h c (List.mem_cons_self ..)
    have hl := num_range (l := l) fun x hx => h x (List.mem_cons_of_mem _ hx)
    rw [num_cons, List.length_cons, Int.pow_succ]
    have hp := pow_pos l.length
    generalize (256 : Int) ^ l.length = p at *
    have h1 : c * p ≤ 255 * p := Int.mul_le_mul_of_nonneg_right hc.2 (Int.le_of_lt hp)
    have h2 : 0 ≤ c * p := Int.mul_nonneg hc.1 (Int.le_of_lt hp)
    omega
theorem mod_step (n : Int) (w : Nat) : n % 256 ^ (w + 1) = n / 256 ^ w % 256 * 256 ^ w + n % 256 ^ w := by
  have hp := pow_pos w
  have e1 := Int.emod_def n (256 ^ (w + 1))
  have e2 := Int.emod_def n (256 ^ w)
  have e3 := Int.emod_def (n / 256 ^ w) 256
  have e4 := div_div n w
  rw [e1, e2, e3, ← e4, Int.pow_succ]
  generalize n / 256 ^ w / 256 = c
  generalize n / 256 ^ w = b
  generalize (256 : Int) ^ w = p
  rw [Int.sub_mul]
  have a1 : p * 256 * c = 256 * c * p := by rw [Int.mul_comm, ← Int.mul_assoc, Int.mul_comm c p, Int.mul_assoc, Int.mul_comm p, Int.mul_comm c]
  have a2 : p * b = b * p := Int.mul_comm ..
  omega
theorem num_be (n : Int) : ∀ w, num (be n w) = n % 256 ^ w
  | 0 => by simp [be, num_nil, Int.emod_one]
  | w + 1 => by rw [be, num_cons, be_length, num_be n w, mod_step]
theorem be_mod (n : Int) : ∀ w, be (n % 256 ^ w) w = be n w := by
  intro w
  have key : ∀ v, v ≤ w → be (n % 256 ^ w) v = be n v := by
    intro v
    induction v with
    | zero => intro _; rfl
    | succ v ih =>
      intro h
      rw [be, be, ih (by omega)]
      congr 1
      obtain ⟨d, rfl⟩ : ∃ d, w = v + 1 + d := ⟨w - (v + 1), by omega⟩
      have hp := pow_pos v
      have e : (256 : Int) ^ (v + 1 + d) = 256 ^ v * (256 * 256 ^ d) := by rw [Int.pow_add, Int.pow_succ, Int.mul_assoc]
      have e0 := Int.emod_def n (256 ^ (v + 1 + d))
      rw [e0, e, Int.mul_assoc, Int.sub_eq_add_neg, ← Int.mul_neg, Int.add_mul_ediv_left _ _ (Int.ne_of_gt hp), ← Int.mul_neg, Int.mul_assoc, Int.add_mul_emod_self_left]
  exact key w (Nat.le_refl _)
theorem num_eq_be {l : List Int} (h : ∀ x ∈ l, 0 ≤ x ∧ x ≤ 255) : be (num l) l.length = l := by
  induction l with
  | nil => rfl
  | cons c l ih =>
    have hc := h c (List.mem_cons_self ..)
    have hl : ∀ x ∈ l, 0 ≤ x ∧ x ≤ 255 := fun x hx => h x (List.mem_cons_of_mem _ hx)
    have hr := num_range hl
    have hp := pow_pos l.length
    rw [List.length_cons, be, num_cons]
    congr 1
    · rw [Int.add_comm, Int.add_mul_ediv_right _ _ (Int.ne_of_gt hp), Int.ediv_eq_zero_of_lt hr.1 hr.2]; omega
    · rw [← be_mod, Int.add_comm, Int.add_mul_emod_self_right, be_mod, ih hl]

end Go.Proofs.YtaoopneiglgnkaaDoor.MBe
