/-
  The pure law IcmpBack: what is laid is taken up again between the same two. For all messages and ends.
-/
import Derived.Test.YtmkjeidejgbicaaPBasex10
import Derived.Test.YtmkjeidejgbicaaPureIcmp
set_option linter.unusedVariables false
set_option linter.unusedSectionVars false
set_option linter.unusedSimpArgs false
namespace Go.Proofs.Ytmkjeidejgbicaa.Pure
open Go.RowKit Go.Proofs.Ytmkjeidejgbicaa.PBase Go.Proofs.YtmkjeidejgbicaaW.PrintWords Go.Proofs.YtmkjeidejgbicaaW.PrintLast Go.Proofs.YtmkjeidejgbicaaW.PrintMore Go.Proofs.Ytmkjeidejgbicaa.MTally Go.Proofs.Ytmkjeidejgbicaa.MBe
theorem msg_size (kind code rest : Int) (data : ByteArray) (c : Int) : (strOfNums (icmp_base_bytes.of kind code rest data c)).size = 8 + data.size := by
  rw [MBytes.size_ofNums, icmp_base_bytes.of_length]
theorem msg_eq (kind code rest : Int) (data : ByteArray) (c : Int) : icmp_base_bytes.of kind code rest data c = [kind % 256, code % 256] ++ (c / 256 % 256) :: (c % 256) :: (be (IntKind.u64.wrap rest) 4 ++ bytesOf data) := by
  unfold icmp_base_bytes.of
  simp [be]
theorem sum_msg (kind code rest : Int) (data : ByteArray) (c : Int) (hc : R c) : S (icmp_base_bytes.of kind code rest data c) = oadd (S (icmp_base_bytes.of kind code rest data 0)) c := by
  have b1 : Bytes [kind % 256, code % 256] := by
    intro x hx
    simp only [List.mem_cons, List.not_mem_nil, or_false] at hx
    omega
  have b2 : Bytes (be (IntKind.u64.wrap rest) 4 ++ bytesOf data) := Bytes.append (be_bytes _ _) (MBytes.range _)
  unfold R at hc
  rw [msg_eq, msg_eq, S_word (by simp) b1 b2 (by omega) (by omega), S_word (by simp) b1 b2 (by omega) (by omega)]
  rw [show c / 256 % 256 * 256 + c % 256 = c by omega, show (0 : Int) / 256 % 256 * 256 + 0 % 256 = 0 by decide, oadd_zero (oadd_R (S_R b1) (S_R b2))]
theorem sum_back (six : Bool) (kind code rest : Int) (data : ByteArray) (b1 : Bool) (h1 l1 h2 l2 : Int) :
    oadd (ps six b1 h1 l1 h2 l2 (8 + (data.size : Int))) (S (icmp_base_bytes.of kind code rest data (chk six kind code rest data b1 h1 l1 h2 l2))) = 65535 := by
  rw [sum_msg _ _ _ _ _ (chk_R ..), ← oadd_assoc (ps_R ..) (S_R (M_bytes _ _ _ _ _)) (chk_R ..)]
  exact oadd_compl (oadd_R (ps_R ..) (S_R (M_bytes _ _ _ _ _)))
theorem take_lay (six : Bool) (kind code rest : Int) (data : ByteArray) (b1 : Bool) (h1 l1 : Int) (b2 : Bool) (h2 l2 : Int) (ho : ¬ (six = true ∧ (b1 && b2) = false)) (hm : may kind code rest data.size = true) {c : Int} (hc : R c)
    (hs : oadd (ps six b1 h1 l1 h2 l2 (8 + (data.size : Int))) (S (icmp_base_bytes.of kind code rest data c)) = 65535) :
    takeR (strOfNums (icmp_base_bytes.of kind code rest data c)) six b1 h1 l1 b2 h2 l2 = (six, kind, code, rest, data, 0) := by
  have hd := may_size hm
  have hz := msg_size kind code rest data c
  have hB := MBytes.ofNums (M_bytes kind code rest data c)
  have hr : IntKind.u64.wrap rest = rest := wu64 (by omega) (by omega)
  have he := msg_eq kind code rest data c
  have e0 : bt (strOfNums (icmp_base_bytes.of kind code rest data c)) 0 = kind := by
    rw [← rd_bytesOf, hB, he]; simp [rd]; omega
  have e1 : bt (strOfNums (icmp_base_bytes.of kind code rest data c)) 1 = code := by
    rw [← rd_bytesOf, hB, he]; simp [rd]; omega
  have e4 : ((icmp_base_bytes.of kind code rest data c).drop 4).take 4 = be rest 4 := by
    rw [he, hr]
    simp only [List.cons_append, List.nil_append, List.drop_succ_cons, List.drop_zero]
    exact List.take_left' (be_length _ _)
  have e8 : (strOfNums (icmp_base_bytes.of kind code rest data c)).extract 8 (8 + data.size) = data := by
    apply MBytes.inj
    rw [MBytes.extract, hB, he, hr]
    simp only [List.cons_append, List.nil_append, List.drop_succ_cons]
    rw [List.drop_left' (be_length _ _)]
    exact List.take_of_length_le (by rw [bytesOf_length]; omega)
  unfold takeR
  rw [if_neg ho, if_neg (by omega), hB, hz, show ((8 + data.size : Nat) : Int) = 8 + (data.size : Int) by omega, hs, if_neg (by decide), if_neg (by omega), e0, e1, e4, e8, num_be]
  rw [show rest % 256 ^ 4 = rest by omega]
theorem ends_pos (h1 l1 h2 l2 n : Int) : S (PureT.ends true h1 l1 h2 l2 n 58) ≠ 0 := by
  intro h
  rw [S_eq_zero (PureT.ends_bytes _ _ _ _ _ _ _)] at h
  have := h 58 (by unfold PureT.ends; simp)
  omega
theorem IcmpBack (six : Bool) (kind code rest : Int) (data : ByteArray) (b1 : Bool) (h1 l1 : Int) (b2 : Bool) (h2 l2 : Int) (_ : (Lit.int .i64 kind).wf = true) (_ : (Lit.int .i64 code).wf = true) (_ : (Lit.int .i64 rest).wf = true) (hs : data.size ≤ 140737488351232)
    (w1 : (Lit.int .u64 h1).wf = true) (w2 : (Lit.int .u64 l1).wf = true) (w3 : (Lit.int .u64 h2).wf = true) (w4 : (Lit.int .u64 l2).wf = true) : ∃ k, crosswaylaw08_IcmpBack.f k six kind code rest data b1 h1 l1 b2 h2 l2 = some true := by
  have u1 := PureT.U_of_wf w1; have u2 := PureT.U_of_wf w2; have u3 := PureT.U_of_wf w3; have u4 := PureT.U_of_wf w4
  refine Ev.rounds (r := true) ?_
  unfold crosswaylaw08_IcmpBack.f
  refine ev_bind rfl (Ev.bind (lay_ev u1 u2 u3 u4 six kind code rest data b1 b2) ?_)
  by_cases ho : six = true ∧ (b1 && b2) = false
  · unfold layR; rw [if_pos ho]
    exact ev_neg (by decide) (ev_pos rfl (ev_pos (by simp) (ev_eq fun _ => rfl)))
  by_cases hm : may kind code rest data.size = false
  · unfold layR; rw [if_neg ho, if_pos hm]
    exact ev_neg (by decide) (ev_pos rfl (ev_pos (by simp) (ev_eq fun _ => rfl)))
  have hm' : may kind code rest data.size = true := by simpa using hm
  have hz := msg_size kind code rest data (chk six kind code rest data b1 h1 l1 h2 l2)
  have hd := may_size hm'
  unfold layR; rw [if_neg ho, if_neg hm]
  refine ev_pos rfl (Ev.bind (take_ev u1 u2 u3 u4 (strOfNums (icmp_base_bytes.of kind code rest data (chk six kind code rest data b1 h1 l1 h2 l2))) (by omega) six b1 b2) ?_)
  rw [take_lay six kind code rest data b1 h1 l1 b2 h2 l2 ho hm' (chk_R ..) (sum_back ..)]
  refine ev_pos rfl (ev_pos rfl (ev_pos (by simp) (ev_eq fun _ => ?_)))
  simp only [hz]
  rw [w64 (by omega) (by omega)]
  congr 1
  simp
end Go.Proofs.Ytmkjeidejgbicaa.Pure
