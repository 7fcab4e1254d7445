/-
  The pure law IcmpApart: what is laid between two is taken up between two others just if what is summed up of them comes to the same. For all messages and ends.
-/
import Derived.Test.YtmkjeidejgbicaaPBasex11
import Derived.Test.YtmkjeidejgbicaaPureIcmpBack
import Derived.Test.YtmkjeidejgbicaaPureTally08R
set_option linter.unusedVariables false
set_option linter.unusedSectionVars false
set_option linter.unusedSimpArgs false
namespace Go.Proofs.Ytmkjeidejgbicaa.Pure
open Go.RowKit Go.Proofs.Ytmkjeidejgbicaa.PBase Go.Proofs.YtmkjeidejgbicaaW.PrintWords Go.Proofs.YtmkjeidejgbicaaW.PrintLast Go.Proofs.YtmkjeidejgbicaaW.PrintMore Go.Proofs.Ytmkjeidejgbicaa.MTally Go.Proofs.Ytmkjeidejgbicaa.MBe
theorem IcmpApart (six : Bool) (kind code rest : Int) (data : ByteArray) (b1 : Bool) (h1 l1 : Int) (b2 : Bool) (h2 l2 : Int) (c1 : Bool) (g1 m1 : Int) (c2 : Bool) (g2 m2 : Int) (_ : (Lit.int .i64 kind).wf = true) (_ : (Lit.int .i64 code).wf = true) (_ : (Lit.int .i64 rest).wf = true) (hs : data.size ≤ 140737488351232)
    (w1 : (Lit.int .u64 h1).wf = true) (w2 : (Lit.int .u64 l1).wf = true) (w3 : (Lit.int .u64 h2).wf = true) (w4 : (Lit.int .u64 l2).wf = true)
    (w5 : (Lit.int .u64 g1).wf = true) (w6 : (Lit.int .u64 m1).wf = true) (w7 : (Lit.int .u64 g2).wf = true) (w8 : (Lit.int .u64 m2).wf = true) : ∃ k, crosswaylaw08_IcmpApart.f k six kind code rest data b1 h1 l1 b2 h2 l2 c1 g1 m1 c2 g2 m2 = some true := by
  have u1 := PureT.U_of_wf w1; have u2 := PureT.U_of_wf w2; have u3 := PureT.U_of_wf w3; have u4 := PureT.U_of_wf w4
  have v1 := PureT.U_of_wf w5; have v2 := PureT.U_of_wf w6; have v3 := PureT.U_of_wf w7; have v4 := PureT.U_of_wf w8
  refine Ev.rounds (r := true) ?_
  unfold crosswaylaw08_IcmpApart.f
  have out : ∀ s : ByteArray, Ev (fun k => crosswaylaw08_IcmpApart.j0 k true s true true kind code rest data b1 h1 l1 b2 h2 l2 c1 g1 m1 c2 g2 m2) true := fun s =>
    Ev.step (f := fun _ => some true) (fun k => by simp only [crosswaylaw08_IcmpApart.j0]; rw [if_pos trivial]) (ev_eq fun _ => rfl)
  refine ev_bind rfl (Ev.bind (lay_ev u1 u2 u3 u4 true kind code rest data b1 b2) ?_)
  by_cases ho : true = true ∧ (b1 && b2) = false
  · unfold layR; rw [if_pos ho]
    exact ev_neg (by decide) (out _)
  by_cases hm : may kind code rest data.size = false
  · unfold layR; rw [if_neg ho, if_pos hm]
    exact ev_neg (by decide) (out _)
  have hm' : may kind code rest data.size = true := by simpa using hm
  have hd := may_size hm'
  have hb : b1 = true ∧ b2 = true := by
    cases b1 <;> cases b2 <;> simp at ho <;> exact ⟨rfl, rfl⟩
  obtain ⟨rfl, rfl⟩ := hb
  unfold layR; rw [if_neg ho, if_neg hm]
  refine ev_pos rfl ?_
  cases c1 with
  | false => exact ev_neg (by decide) (out _)
  | true =>
    refine ev_pos rfl ?_
    cases c2 with
    | false => exact out _
    | true =>
      obtain ⟨cc, hcc⟩ : ∃ cc, chk true kind code rest data true h1 l1 h2 l2 = cc := ⟨_, rfl⟩
      have hR := chk_R true kind code rest data true h1 l1 h2 l2
      simp only [hcc] at hR ⊢
      have hz := msg_size kind code rest data cc
      have hlen := icmp_base_bytes.of_length kind code rest data cc
      refine Ev.step (fun k => by simp only [crosswaylaw08_IcmpApart.j0]; rw [if_neg (by decide)]) ?_
      refine Ev.bind (take_ev v1 v2 v3 v4 (strOfNums (icmp_base_bytes.of kind code rest data cc)) (by omega) true true true) (Ev.bind (PureT.rpseudo_ev true h1 l1 true h2 l2 _ 58 u1 u2 u3 u4) (Ev.bind (PureT.rpseudo_ev true g1 m1 true g2 m2 _ 58 v1 v2 v3 v4) ?_))
      have e8 : ((strOfNums (icmp_base_bytes.of kind code rest data cc)).size : Int) = 8 + (data.size : Int) := by rw [hz]; omega
      rw [e8]
      have px := ends_pos h1 l1 h2 l2 (8 + (data.size : Int))
      have py := ends_pos g1 m1 g2 m2 (8 + (data.size : Int))
      have rx := S_R (PureT.ends_bytes true h1 l1 h2 l2 (8 + (data.size : Int)) 58)
      have ry := S_R (PureT.ends_bytes true g1 m1 g2 m2 (8 + (data.size : Int)) 58)
      have r0 := S_R (M_bytes kind code rest data 0)
      have hc : cc = 65535 - oadd (S (PureT.ends true h1 l1 h2 l2 (8 + (data.size : Int)) 58)) (S (icmp_base_bytes.of kind code rest data 0)) := by
        rw [← hcc]; unfold chk ps; rw [if_pos rfl]
      have hsum := sum_msg kind code rest data cc hR
      generalize S (PureT.ends true h1 l1 h2 l2 (8 + (data.size : Int)) 58) = x at *
      obtain ⟨y, hy⟩ : ∃ y, S (PureT.ends true g1 m1 g2 m2 (8 + (data.size : Int)) 58) = y := ⟨_, rfl⟩
      rw [hy] at py ry ⊢
      obtain ⟨z, hzz⟩ : ∃ z, S (icmp_base_bytes.of kind code rest data 0) = z := ⟨_, rfl⟩
      rw [hzz] at r0 hc hsum
      have rx' := rx; have ry' := ry; have r0' := r0
      unfold R at rx' ry' r0'
      rw [Int.tmod_eq_emod_of_nonneg rx'.1, Int.tmod_eq_emod_of_nonneg ry'.1]
      by_cases hq : x % 65535 = y % 65535
      · have hxy : x = y := by omega
        refine ev_pos hq ?_
        have hs2 : oadd (ps true true g1 m1 g2 m2 (8 + (data.size : Int))) (S (icmp_base_bytes.of kind code rest data cc)) = 65535 := by
          unfold ps; rw [if_pos rfl, hy, hsum, hc, ← hxy]
          unfold oadd; split <;> split <;> split <;> omega
        rw [take_lay true kind code rest data true g1 m1 true g2 m2 (by simp) hm' hR hs2]
        exact ev_pos trivial (ev_pos rfl (ev_eq fun _ => by simp))
      · refine ev_neg hq (ev_pos trivial (ev_eq fun _ => ?_))
        have hs2 : oadd (ps true true g1 m1 g2 m2 (8 + (data.size : Int))) (S (icmp_base_bytes.of kind code rest data cc)) ≠ 65535 := by
          unfold ps; rw [if_pos rfl, hy, hsum, hc]
          unfold oadd; split <;> split <;> split <;> omega
        have ht : takeR (strOfNums (icmp_base_bytes.of kind code rest data cc)) true true g1 m1 true g2 m2 = (false, 0, 0, 0, ⟨#[]⟩, 72) := by
          unfold takeR
          rw [if_neg (by simp), if_neg (by omega), MBytes.ofNums (M_bytes _ _ _ _ _), e8, if_pos hs2]
        rw [ht]; rfl
end Go.Proofs.Ytmkjeidejgbicaa.Pure
