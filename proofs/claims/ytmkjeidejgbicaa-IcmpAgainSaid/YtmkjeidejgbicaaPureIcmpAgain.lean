/-
  The law IcmpAgain: whatever message is taken up is laid as the same bytes, but where a check of all ones stands for one of noughts. The plain part, and the joined contract of the call. For all bytes and ends.
-/
import Derived.Test.YtmkjeidejgbicaaWIcmpAgain
import Derived.Test.YtmkjeidejgbicaaPureIcmp
set_option linter.unusedVariables false
set_option linter.unusedSectionVars false
set_option linter.unusedSimpArgs false
namespace Go.Proofs.Ytmkjeidejgbicaa.Pure
open Go.RowKit Go.Proofs.Ytmkjeidejgbicaa.PBase Go.Proofs.YtmkjeidejgbicaaW.PrintWords Go.Proofs.YtmkjeidejgbicaaW.PrintLast Go.Proofs.YtmkjeidejgbicaaW.PrintMore Go.Proofs.Ytmkjeidejgbicaa.MTally Go.Proofs.Ytmkjeidejgbicaa.MBe
theorem msg_size (kind code rest : Int) (data : ByteArray) (c : Int) : (strOfNums (icmp_base_bytes.of kind code rest data c)).size = 8 + data.size := by
  rw [MBytes.size_ofNums, icmp_base_bytes.of_length]
theorem msg_eq (kind code rest : Int) (data : ByteArray) (c : Int) : icmp_base_bytes.of kind code rest data c = [kind % 256, code % 256] ++ (c / 256 % 256) :: (c % 256) :: (be (IntKind.u64.wrap rest) 4 ++ bytesOf data) := by
  unfold icmp_base_bytes.of
  simp [be]
theorem sum_msg (kind code rest : Int) (data : ByteArray) (c : Int) (hc : R c) : S (icmp_base_bytes.of kind code rest data c) = oadd (S (icmp_base_bytes.of kind code rest data 0)) c := by
  have b1 : Bytes [kind % 256, code % 256] := by
    intro x hx
    simp only [List.mem_cons, List.not_mem_nil, or_false] at hx
    omega
  have b2 : Bytes (be (IntKind.u64.wrap rest) 4 ++ bytesOf data) := Bytes.append (be_bytes _ _) (MBytes.range _)
  unfold R at hc
  rw [msg_eq, msg_eq, S_word (by simp) b1 b2 (by omega) (by omega), S_word (by simp) b1 b2 (by omega) (by omega)]
  rw [show c / 256 % 256 * 256 + c % 256 = c by omega, show (0 : Int) / 256 % 256 * 256 + 0 % 256 = 0 by decide, oadd_zero (oadd_R (S_R b1) (S_R b2))]
/-- Bytes that are enough for a head, as a message's bytes. -/
theorem bytes_msg (s : ByteArray) (h8 : 8 ≤ s.size) : bytesOf s = icmp_base_bytes.of (bt s 0) (bt s 1) (num (((bytesOf s).drop 4).take 4)) (s.extract 8 s.size) (bt s 2 * 256 + bt s 3) := by
  have hl := bytesOf_length s
  have hb := MBytes.range s
  have r0 := bt_range s 0; have r1 := bt_range s 1; have r2 := bt_range s 2; have r3 := bt_range s 3
  have hn := num4 hb
  rw [msg_eq, MBytes.extract]
  rw [wu64 (n := num _) (by omega) (by omega)]
  rw [show (bt s 2 * 256 + bt s 3) / 256 % 256 = bt s 2 by omega, show (bt s 2 * 256 + bt s 3) % 256 = bt s 3 by omega, show bt s 0 % 256 = bt s 0 by omega, show bt s 1 % 256 = bt s 1 by omega]
  rw [← rd_bytesOf s 0, ← rd_bytesOf s 1, ← rd_bytesOf s 2, ← rd_bytesOf s 3]
  generalize bytesOf s = l at *
  have h4 : be (num ((l.drop 4).take 4)) 4 = (l.drop 4).take 4 := by
    have h := num_eq_be (l := (l.drop 4).take 4) (fun x hx => hb x (List.mem_of_mem_drop (List.mem_of_mem_take hx)))
    rw [show ((l.drop 4).take 4).length = 4 by rw [List.length_take, List.length_drop]; omega] at h
    exact h
  rw [h4, show (l.drop 8).take (s.size - 8) = l.drop 8 from List.take_of_length_le (by rw [List.length_drop]; omega)]
  obtain ⟨a, b, c, d, m, rfl⟩ : ∃ a b c d m, l = a :: b :: c :: d :: m := by
    match l, hl with
    | a :: b :: c :: d :: m, _ => exact ⟨a, b, c, d, m, rfl⟩
    | [], h => simp at h; omega
    | [_], h => simp at h; omega
    | [_, _], h => simp at h; omega
    | [_, _, _], h => simp at h; omega
  simp [rd]
theorem again_calls (s : ByteArray) (six b1 : Bool) (h1 l1 : Int) (b2 : Bool) (h2 l2 : Int) (hs : s.size ≤ 140737488351232)
    (w1 : (Lit.int .u64 h1).wf = true) (w2 : (Lit.int .u64 l1).wf = true) (w3 : (Lit.int .u64 h2).wf = true) (w4 : (Lit.int .u64 l2).wf = true) (W : World) :
    Calls Try.prog 9 #[.string s, .bool six, .agg #[.bool b1, .int .u64 h1, .int .u64 l1, .bool b2, .int .u64 h2, .int .u64 l2]] W fun e w' => e = .returned (.bool true) ∧ Below W.heap.size W w' := by
  have u1 := PureT.U_of_wf w1; have u2 := PureT.U_of_wf w2; have u3 := PureT.U_of_wf w3; have u4 := PureT.U_of_wf w4
  obtain ⟨n1, ht⟩ := take_ev u1 u2 u3 u4 s hs six b1 b2
  have ht0 := ht n1 (Nat.le_refl _)
  by_cases ho : six = true ∧ (b1 && b2) = false
  · unfold takeR at ht0; rw [if_pos ho] at ht0
    exact WIcmpAgain.bad n1 s six b1 h1 l1 b2 h2 l2 70 W ht0 (by decide)
  by_cases h8 : s.size < 8
  · unfold takeR at ht0; rw [if_neg ho, if_pos h8] at ht0
    exact WIcmpAgain.bad n1 s six b1 h1 l1 b2 h2 l2 71 W ht0 (by decide)
  by_cases hc : oadd (ps six b1 h1 l1 h2 l2 (s.size : Int)) (S (bytesOf s)) ≠ 65535
  · unfold takeR at ht0; rw [if_neg ho, if_neg h8, if_pos hc] at ht0
    exact WIcmpAgain.bad n1 s six b1 h1 l1 b2 h2 l2 72 W ht0 (by decide)
  by_cases hg : 65008 < s.size
  · unfold takeR at ht0; rw [if_neg ho, if_neg h8, if_neg hc, if_pos hg] at ht0
    exact WIcmpAgain.bad n1 s six b1 h1 l1 b2 h2 l2 70 W ht0 (by decide)
  clear ht0
  have hc : oadd (ps six b1 h1 l1 h2 l2 (s.size : Int)) (S (bytesOf s)) = 65535 := by simpa using hc
  have htr : takeR s six b1 h1 l1 b2 h2 l2 = (six, bt s 0, bt s 1, num (((bytesOf s).drop 4).take 4), s.extract 8 s.size, 0) := by
    unfold takeR; rw [if_neg ho, if_neg h8, if_neg (by simpa using hc), if_neg hg]
  have hb := MBytes.range s
  have hm := bytes_msg s (by omega)
  have r0 := bt_range s 0; have r1 := bt_range s 1; have r2 := bt_range s 2; have r3 := bt_range s 3
  have hn := num4 hb
  have hds : (s.extract 8 s.size).size = s.size - 8 := by rw [← bytesOf_length, MBytes.extract]; simp [bytesOf_length]
  obtain ⟨n2, hl⟩ := lay_ev u1 u2 u3 u4 six (bt s 0) (bt s 1) (num (((bytesOf s).drop 4).take 4)) (s.extract 8 s.size) b1 b2
  have hmay : may (bt s 0) (bt s 1) (num (((bytesOf s).drop 4).take 4)) (s.extract 8 s.size).size = true := by
    unfold may; rw [decide_eq_true_eq, hds]; omega
  generalize hrs : num (((bytesOf s).drop 4).take 4) = rs at *
  generalize hdt : s.extract 8 s.size = data at *
  have hlr : layR six (bt s 0) (bt s 1) rs data b1 h1 l1 b2 h2 l2 = (strOfNums (icmp_base_bytes.of (bt s 0) (bt s 1) rs data (chk six (bt s 0) (bt s 1) rs data b1 h1 l1 h2 l2)), 0) := by
    unfold layR; rw [if_neg ho, if_neg (by simpa using hmay)]
  have hR := chk_R six (bt s 0) (bt s 1) rs data b1 h1 l1 h2 l2
  have hch : chk six (bt s 0) (bt s 1) rs data b1 h1 l1 h2 l2 = 65535 - oadd (ps six b1 h1 l1 h2 l2 (8 + (data.size : Int))) (S (icmp_base_bytes.of (bt s 0) (bt s 1) rs data 0)) := rfl
  generalize chk six (bt s 0) (bt s 1) rs data b1 h1 l1 h2 l2 = ch at *
  have hz := msg_size (bt s 0) (bt s 1) rs data ch
  have hB := MBytes.ofNums (M_bytes (bt s 0) (bt s 1) rs data ch)
  have hsum := sum_msg (bt s 0) (bt s 1) rs data (bt s 2 * 256 + bt s 3) (by unfold R; omega)
  have hp := ps_R six b1 h1 l1 h2 l2 (s.size : Int)
  have hS0 := S_R (M_bytes (bt s 0) (bt s 1) rs data 0)
  have h1' := ht (max n1 n2) (Nat.le_max_left ..)
  have h2' := hl (max n1 n2) (Nat.le_max_right ..)
  rw [htr] at h1'
  rw [hlr] at h2'
  refine WIcmpAgain.good (max n1 n2) s _ six b1 h1 l1 b2 h2 l2 (bt s 0) (bt s 1) rs data W h1' h2' (by omega) (by omega) (by omega) ?_ ?_ ?_
  · apply MBytes.inj
    rw [MBytes.extract, MBytes.extract, hB, hm, msg_eq, msg_eq]; simp
  · apply MBytes.inj
    rw [MBytes.extract, MBytes.extract, hB, hm, msg_eq, msg_eq]; simp
  · have key : bt s 2 * 256 + bt s 3 = ch ∨ (bt s 2 * 256 + bt s 3 = 65535 ∧ ch = 0) := by
      rw [hm, hsum] at hc
      rw [show (8 : Int) + (data.size : Int) = (s.size : Int) by omega] at hch
      generalize ps six b1 h1 l1 h2 l2 (s.size : Int) = p at *
      generalize S (icmp_base_bytes.of (bt s 0) (bt s 1) rs data 0) = q at *
      unfold R at *
      unfold oadd at *
      split at hc <;> split at hc <;> split at hch <;> omega
    rcases key with key | ⟨k1, k2⟩
    · left
      have : strOfNums (icmp_base_bytes.of (bt s 0) (bt s 1) rs data ch) = s := by
        apply MBytes.inj
        rw [hB, ← key]; exact hm.symm
      rw [this]
    · right
      refine ⟨by omega, by omega, ?_, ?_⟩
      · rw [← rd_bytesOf, hB, msg_eq, k2]; simp [rd]
      · rw [← rd_bytesOf, hB, msg_eq, k2]; simp [rd]
end Go.Proofs.Ytmkjeidejgbicaa.Pure
