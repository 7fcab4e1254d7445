/-
  The law IcmpTurned: a message of which one byte is changed for another one is told by its sum, and so is one with a byte behind it that is not 0. The plain part, and the joined contract of the call. For all messages, ends, places and numbers.
-/
import Derived.Test.YtmkjeidejgbicaaWIcmpTurned
import Derived.Test.YtmkjeidejgbicaaPureIcmp
import Derived.Laws.BitsAllLaws
set_option linter.unusedVariables false
set_option linter.unusedSectionVars false
set_option linter.unusedSimpArgs false
namespace Go.Proofs.Ytmkjeidejgbicaa.Pure
open Go.RowKit Go.Proofs.Ytmkjeidejgbicaa.PBase Go.Proofs.YtmkjeidejgbicaaW.PrintWords Go.Proofs.YtmkjeidejgbicaaW.PrintLast Go.Proofs.YtmkjeidejgbicaaW.PrintMore Go.Proofs.Ytmkjeidejgbicaa.MTally Go.Proofs.Ytmkjeidejgbicaa.MBe
theorem msg_size (kind code rest : Int) (data : ByteArray) (c : Int) : (strOfNums (icmp_base_bytes.of kind code rest data c)).size = 8 + data.size := by
  rw [MBytes.size_ofNums, icmp_base_bytes.of_length]
theorem msg_eq (kind code rest : Int) (data : ByteArray) (c : Int) : icmp_base_bytes.of kind code rest data c = [kind % 256, code % 256] ++ (c / 256 % 256) :: (c % 256) :: (be (IntKind.u64.wrap rest) 4 ++ bytesOf data) := by
  unfold icmp_base_bytes.of
  simp [be]
theorem sum_msg (kind code rest : Int) (data : ByteArray) (c : Int) (hc : R c) : S (icmp_base_bytes.of kind code rest data c) = oadd (S (icmp_base_bytes.of kind code rest data 0)) c := by
  have b1 : Bytes [kind % 256, code % 256] := by
    intro x hx
    simp only [List.mem_cons, List.not_mem_nil, or_false] at hx
    omega
  have b2 : Bytes (be (IntKind.u64.wrap rest) 4 ++ bytesOf data) := Bytes.append (be_bytes _ _) (MBytes.range _)
  unfold R at hc
  rw [msg_eq, msg_eq, S_word (by simp) b1 b2 (by omega) (by omega), S_word (by simp) b1 b2 (by omega) (by omega)]
  rw [show c / 256 % 256 * 256 + c % 256 = c by omega, show (0 : Int) / 256 % 256 * 256 + 0 % 256 = 0 by decide, oadd_zero (oadd_R (S_R b1) (S_R b2))]
theorem sum_back (six : Bool) (kind code rest : Int) (data : ByteArray) (b1 : Bool) (h1 l1 h2 l2 : Int) :
    oadd (ps six b1 h1 l1 h2 l2 (8 + (data.size : Int))) (S (icmp_base_bytes.of kind code rest data (chk six kind code rest data b1 h1 l1 h2 l2))) = 65535 := by
  rw [sum_msg _ _ _ _ _ (chk_R ..), ← oadd_assoc (ps_R ..) (S_R (M_bytes _ _ _ _ _)) (chk_R ..)]
  exact oadd_compl (oadd_R (ps_R ..) (S_R (M_bytes _ _ _ _ _)))
theorem take_lay (six : Bool) (kind code rest : Int) (data : ByteArray) (b1 : Bool) (h1 l1 : Int) (b2 : Bool) (h2 l2 : Int) (ho : ¬ (six = true ∧ (b1 && b2) = false)) (hm : may kind code rest data.size = true) {c : Int} (hc : R c)
    (hs : oadd (ps six b1 h1 l1 h2 l2 (8 + (data.size : Int))) (S (icmp_base_bytes.of kind code rest data c)) = 65535) :
    takeR (strOfNums (icmp_base_bytes.of kind code rest data c)) six b1 h1 l1 b2 h2 l2 = (six, kind, code, rest, data, 0) := by
  have hd := may_size hm
  have hz := msg_size kind code rest data c
  have hB := MBytes.ofNums (M_bytes kind code rest data c)
  have hr : IntKind.u64.wrap rest = rest := wu64 (by omega) (by omega)
  have he := msg_eq kind code rest data c
  have e0 : bt (strOfNums (icmp_base_bytes.of kind code rest data c)) 0 = kind := by
    rw [← rd_bytesOf, hB, he]; simp [rd]; omega
  have e1 : bt (strOfNums (icmp_base_bytes.of kind code rest data c)) 1 = code := by
    rw [← rd_bytesOf, hB, he]; simp [rd]; omega
  have e4 : ((icmp_base_bytes.of kind code rest data c).drop 4).take 4 = be rest 4 := by
    rw [he, hr]
    simp only [List.cons_append, List.nil_append, List.drop_succ_cons, List.drop_zero]
    exact List.take_left' (be_length _ _)
  have e8 : (strOfNums (icmp_base_bytes.of kind code rest data c)).extract 8 (8 + data.size) = data := by
    apply MBytes.inj
    rw [MBytes.extract, hB, he, hr]
    simp only [List.cons_append, List.nil_append, List.drop_succ_cons]
    rw [List.drop_left' (be_length _ _)]
    exact List.take_of_length_le (by rw [bytesOf_length]; omega)
  unfold takeR
  rw [if_neg ho, if_neg (by omega), hB, hz, show ((8 + data.size : Nat) : Int) = 8 + (data.size : Int) by omega, hs, if_neg (by decide), if_neg (by omega), e0, e1, e4, e8, num_be]
  rw [show rest % 256 ^ 4 = rest by omega]
theorem ends_pos (h1 l1 h2 l2 n : Int) : S (PureT.ends true h1 l1 h2 l2 n 58) ≠ 0 := by
  intro h
  rw [S_eq_zero (PureT.ends_bytes _ _ _ _ _ _ _)] at h
  have := h 58 (by unfold PureT.ends; simp)
  omega
/-- The bytes' weights, added up. -/
def V : Bool → List Int → Int
  | _, [] => 0
  | true, c :: l => c * 256 + V false l
  | false, c :: l => c + V true l
theorem oadd_mod {a b : Int} (m : Int) (h : (a + b) % 65535 = m % 65535) : oadd a b % 65535 = m % 65535 := by unfold oadd; split <;> omega
theorem sumB_mod : ∀ (l : List Int) (n : Int) (hi : Bool), sumB n hi l % 65535 = (n + V hi l) % 65535
  | [], n, hi => by cases hi <;> simp [sumB, V]
  | c :: l, n, true => by
    have h := sumB_mod l (oadd n (c * 256)) false
    have h2 := oadd_mod (a := n) (b := c * 256) (n + c * 256) rfl
    simp only [sumB, V]
    omega
  | c :: l, n, false => by
    have h := sumB_mod l (oadd n c) true
    have h2 := oadd_mod (a := n) (b := c) (n + c) rfl
    simp only [sumB, V]
    omega
theorem S_mod {l : List Int} (h : Bytes l) : S l % 65535 = V true l % 65535 := by
  rw [← sumB_S h, sumB_mod, Int.zero_add]
theorem V_set (x : Int) : ∀ (l : List Int) (p : Nat) (hi : Bool) (hp : p < l.length), ∃ m, (m = 1 ∨ m = 256) ∧ V hi (l.set p x) = V hi l + (x - l[p]) * m
  | c :: l, 0, true, _ => ⟨256, Or.inr rfl, by simp only [List.set_cons_zero, V, List.getElem_cons_zero]; omega⟩
  | c :: l, 0, false, _ => ⟨1, Or.inl rfl, by simp only [List.set_cons_zero, V, List.getElem_cons_zero]; omega⟩
  | c :: l, p + 1, true, hp => by
    obtain ⟨m, hm, h⟩ := V_set x l p false (by simpa using hp)
    exact ⟨m, hm, by simp only [List.set_cons_succ, V, List.getElem_cons_succ, h]; omega⟩
  | c :: l, p + 1, false, hp => by
    obtain ⟨m, hm, h⟩ := V_set x l p true (by simpa using hp)
    exact ⟨m, hm, by simp only [List.set_cons_succ, V, List.getElem_cons_succ, h]; omega⟩
theorem V_end (c : Int) : ∀ (l : List Int) (hi : Bool), ∃ m, (m = 1 ∨ m = 256) ∧ V hi (l ++ [c]) = V hi l + c * m
  | [], true => ⟨256, Or.inr rfl, by simp [V]⟩
  | [], false => ⟨1, Or.inl rfl, by simp [V]⟩
  | d :: l, true => by
    obtain ⟨m, hm, h⟩ := V_end c l false
    exact ⟨m, hm, by simp only [List.cons_append, V, h]; omega⟩
  | d :: l, false => by
    obtain ⟨m, hm, h⟩ := V_end c l true
    exact ⟨m, hm, by simp only [List.cons_append, V, h]; omega⟩
theorem oadd_full_mod {a b : Int} (h : oadd a b = 65535) : (a + b) % 65535 = 0 := by unfold oadd at h; split at h <;> omega
theorem set_sum {l : List Int} (hb : Bytes l) {P : Int} {p : Nat} (hp : p < l.length) {x : Int} (hx : 0 ≤ x ∧ x ≤ 255) (hne : x ≠ l[p]) (h : oadd P (S l) = 65535) : oadd P (S (l.set p x)) ≠ 65535 := by
  intro h2
  have hb2 : Bytes (l.set p x) := fun y hy => by
    rcases List.mem_or_eq_of_mem_set hy with hy | rfl
    · exact hb y hy
    · exact hx
  have a1 := oadd_full_mod h; have a2 := oadd_full_mod h2
  have s1 := S_mod hb; have s2 := S_mod hb2
  obtain ⟨m, hm, hv⟩ := V_set x l p true hp
  have hl := byte_at hb hp
  generalize l[p] = a at *
  generalize V true (l.set p x) = v2 at *
  generalize V true l = v1 at *
  rcases hm with rfl | rfl <;> omega
theorem end_sum {l : List Int} (hb : Bytes l) {c : Int} (hc : 1 ≤ c ∧ c ≤ 128) (h : oadd 0 (S l) = 65535) : oadd 0 (S (l ++ [c])) ≠ 65535 := by
  intro h2
  have hb2 : Bytes (l ++ [c]) := Bytes.append hb (fun y hy => by simp at hy; omega)
  have a1 := oadd_full_mod h; have a2 := oadd_full_mod h2
  have s1 := S_mod hb; have s2 := S_mod hb2
  obtain ⟨m, hm, hv⟩ := V_end c l true
  generalize V true (l ++ [c]) = v2 at *
  generalize V true l = v1 at *
  rcases hm with rfl | rfl <;> omega
/-- A byte with another one's bits turned is another byte. -/
theorem turned {a c : Int} (ha : 0 ≤ a ∧ a ≤ 255) (hc : 1 ≤ c ∧ c ≤ 128) : (0 ≤ bits .xor .u8 a c ∧ bits .xor .u8 a c ≤ 255) ∧ bits .xor .u8 a c ≠ a := by
  rw [u8_xor a c (by omega) (by omega) (by omega) (by omega)]
  obtain ⟨m, rfl⟩ := Int.eq_ofNat_of_zero_le ha.1
  obtain ⟨n, rfl⟩ := Int.eq_ofNat_of_zero_le (show 0 ≤ c by omega)
  have hlt : m ^^^ n < 2 ^ 8 := Nat.xor_lt_two_pow (by omega) (by omega)
  rw [Int.toNat_natCast, Int.toNat_natCast]
  refine ⟨⟨by omega, by omega⟩, fun h => ?_⟩
  have h1 : m ^^^ n = m := by exact_mod_cast h
  have h2 : m ^^^ (m ^^^ n) = n := by rw [← Nat.xor_assoc, Nat.xor_self, Nat.zero_xor]
  rw [h1, Nat.xor_self] at h2
  omega
theorem turned_calls (six : Bool) (kind code rest : Int) (data : ByteArray) (b1 : Bool) (h1 l1 : Int) (b2 : Bool) (h2 l2 : Int) (at_ by_ : Int) (_ : (Lit.int .i64 kind).wf = true) (_ : (Lit.int .i64 code).wf = true) (_ : (Lit.int .i64 rest).wf = true) (hs : data.size ≤ 140737488351232)
    (w1 : (Lit.int .u64 h1).wf = true) (w2 : (Lit.int .u64 l1).wf = true) (w3 : (Lit.int .u64 h2).wf = true) (w4 : (Lit.int .u64 l2).wf = true) (wa : (Lit.int .i64 at_).wf = true) (wb : (Lit.int .i64 by_).wf = true) (W : World) :
    Calls Try.prog 7 #[.agg #[.bool six, .int .i64 kind, .int .i64 code, .int .i64 rest, .string data], .agg #[.bool b1, .int .u64 h1, .int .u64 l1, .bool b2, .int .u64 h2, .int .u64 l2], .int .i64 at_, .int .i64 by_] W fun e w' => e = .returned (.bool true) ∧ Below W.heap.size W w' := by
  have u1 := PureT.U_of_wf w1; have u2 := PureT.U_of_wf w2; have u3 := PureT.U_of_wf w3; have u4 := PureT.U_of_wf w4
  have ia := i64_of_wf wa
  obtain ⟨n1, hl⟩ := lay_ev u1 u2 u3 u4 six kind code rest data b1 b2
  have hl0 := hl n1 (Nat.le_refl _)
  by_cases ho : six = true ∧ (b1 && b2) = false
  · unfold layR at hl0; rw [if_pos ho] at hl0
    exact WIcmpTurned.bad n1 six kind code rest data b1 h1 l1 b2 h2 l2 at_ by_ 70 W hl0 (by decide)
  by_cases hm : may kind code rest data.size = false
  · unfold layR at hl0; rw [if_neg ho, if_pos hm] at hl0
    exact WIcmpTurned.bad n1 six kind code rest data b1 h1 l1 b2 h2 l2 at_ by_ 70 W hl0 (by decide)
  clear hl0
  have hm' : may kind code rest data.size = true := by simpa using hm
  have hd := may_size hm'
  have hlr : layR six kind code rest data b1 h1 l1 b2 h2 l2 = (strOfNums (icmp_base_bytes.of kind code rest data (chk six kind code rest data b1 h1 l1 h2 l2)), 0) := by
    unfold layR; rw [if_neg ho, if_neg hm]
  have hB := MBytes.ofNums (M_bytes kind code rest data (chk six kind code rest data b1 h1 l1 h2 l2))
  have hz := msg_size kind code rest data (chk six kind code rest data b1 h1 l1 h2 l2)
  have hsum := sum_back six kind code rest data b1 h1 l1 h2 l2
  rw [← hB] at hsum
  generalize strOfNums (icmp_base_bytes.of kind code rest data (chk six kind code rest data b1 h1 l1 h2 l2)) = s at *
  have hb := MBytes.range s
  have hlen := bytesOf_length s
  have e8 : (8 : Int) + (data.size : Int) = (s.size : Int) := by omega
  rw [e8] at hsum
  have hc : 1 ≤ 1 + by_ % 128 ∧ 1 + by_ % 128 ≤ 128 := by omega
  have main : ∀ p : Nat, p < s.size → ∃ k, icmp_Lay.f k six kind code rest data b1 h1 l1 b2 h2 l2 = some (s, 0) ∧ (0 ≤ bits .xor .u8 (bt s (p : Int)) (1 + by_ % 128) ∧ bits .xor .u8 (bt s (p : Int)) (1 + by_ % 128) ≤ 255) ∧
      icmp_Take.f k (strOfNums ((bytesOf s).set p (bits .xor .u8 (bt s (p : Int)) (1 + by_ % 128)))) six b1 h1 l1 b2 h2 l2 = some (false, 0, 0, 0, ⟨#[]⟩, 72) ∧
      (six = false → s.size ≠ 65008 → icmp_Take.f k (s ++ strOfNums [1 + by_ % 128]) six b1 h1 l1 b2 h2 l2 = some (false, 0, 0, 0, ⟨#[]⟩, 72)) := by
    intro p hp
    obtain ⟨hx, hne⟩ := turned (bt_range s (p : Int)) hc
    have hbp : bt s (p : Int) = (bytesOf s)[p]'(by omega) := MBytes.bt_eq s p hp
    generalize bits .xor .u8 (bt s (p : Int)) (1 + by_ % 128) = x at *
    rw [hbp] at hne
    have hset := set_sum hb (by omega) hx hne hsum
    have hbs : Bytes ((bytesOf s).set p x) := fun y hy => by
      rcases List.mem_or_eq_of_mem_set hy with hy | rfl
      · exact hb y hy
      · exact hx
    have hB1 := MBytes.ofNums hbs
    have hz1 : (strOfNums ((bytesOf s).set p x)).size = s.size := by rw [MBytes.size_ofNums, List.length_set, hlen]
    have hbc : Bytes [1 + by_ % 128] := fun y hy => by simp at hy; omega
    have hB2 : bytesOf (s ++ strOfNums [1 + by_ % 128]) = bytesOf s ++ [1 + by_ % 128] := by rw [MBytes.append, MBytes.ofNums hbc]
    have hz2 : (s ++ strOfNums [1 + by_ % 128]).size = s.size + 1 := by rw [← bytesOf_length, hB2]; simp [hlen]
    obtain ⟨n2, ht1⟩ := take_ev u1 u2 u3 u4 (strOfNums ((bytesOf s).set p x)) (by omega) six b1 b2
    obtain ⟨n3, ht2⟩ := take_ev u1 u2 u3 u4 (s ++ strOfNums [1 + by_ % 128]) (by omega) six b1 b2
    refine ⟨max n1 (max n2 n3), ?_, hx, ?_, fun h6 h65 => ?_⟩
    · exact (hl _ (Nat.le_max_left ..)).trans (by rw [hlr])
    · refine (ht1 _ (Nat.le_trans (Nat.le_max_left ..) (Nat.le_max_right ..))).trans ?_
      unfold takeR
      rw [if_neg ho, if_neg (by omega), hz1, hB1, if_pos hset]
    · refine (ht2 _ (Nat.le_trans (Nat.le_max_right ..) (Nat.le_max_right ..))).trans ?_
      unfold takeR
      subst h6
      have p0 : ∀ n : Int, ps false b1 h1 l1 h2 l2 n = 0 := fun n => by unfold ps; rw [if_neg (by decide)]
      rw [p0] at hsum
      rw [if_neg (fun h => absurd h.1 (by decide)), if_neg (by omega), hB2, p0, if_pos (end_sum hb hc hsum)]
  have hpos : (0 : Int) < (s.size : Int) := by omega
  by_cases hn : at_ < 0
  · have ew : wrap64 (-(wrap64 (at_ + 1))) = -(at_ + 1) := by rw [w64 (n := at_ + 1) (by omega) (by omega)]; exact w64 (by omega) (by omega)
    have h0 := Int.emod_nonneg (-(at_ + 1)) (show (s.size : Int) ≠ 0 by omega)
    have h1' := Int.emod_lt_of_pos (-(at_ + 1)) hpos
    obtain ⟨p, hp⟩ := Int.eq_ofNat_of_zero_le h0
    obtain ⟨k, m1, m2, m3, m4⟩ := main p (by omega)
    exact WIcmpTurned.goodneg k six kind code rest data b1 h1 l1 b2 h2 l2 at_ by_ W s m1 (by omega) (by omega) p (by omega) hn (by rw [ew, Int.tmod_eq_emod_of_nonneg (by omega)]; exact hp) _ rfl m2 m3 m4
  · have h0 := Int.emod_nonneg at_ (show (s.size : Int) ≠ 0 by omega)
    have h1' := Int.emod_lt_of_pos at_ hpos
    obtain ⟨p, hp⟩ := Int.eq_ofNat_of_zero_le h0
    obtain ⟨k, m1, m2, m3, m4⟩ := main p (by omega)
    exact WIcmpTurned.good k six kind code rest data b1 h1 l1 b2 h2 l2 at_ by_ W s m1 (by omega) (by omega) p (by omega) (by omega) (by rw [Int.tmod_eq_emod_of_nonneg (by omega)]; exact hp) _ rfl m2 m3 m4
end Go.Proofs.Ytmkjeidejgbicaa.Pure
