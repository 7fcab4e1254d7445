/-
  What is told tells of an error, so that nothing is told of it. No program in sight but its Lean functions. Conditions: those of each theorem.
-/
import Derived.Test.YtaoopneiglgnkaaDoorPureExcuse
set_option linter.unusedVariables false
set_option linter.unusedSectionVars false
set_option linter.unusedSimpArgs false
namespace Go.Proofs.YtaoopneiglgnkaaDoor.Pure
open Go.RowKit Go.Proofs.YtaoopneiglgnkaaDoor.PBase Go.Proofs.YtaoopneiglgnkaaDoorW.PrintWords Go.Proofs.YtaoopneiglgnkaaDoorW.PrintLast Go.Proofs.YtaoopneiglgnkaaDoorW.PrintMore Go.Proofs.YtaoopneiglgnkaaDoor.MTally Go.Proofs.YtaoopneiglgnkaaDoor.MBe
theorem kind_err {why : Int} {six : Bool} (h : (kindR why six).2.2 = true) : errK six (kindR why six).1 = true ∧ 0 ≤ (kindR why six).1 ∧ (kindR why six).1 ≤ 255 := by
  unfold kindR at h ⊢
  by_cases hw : why < 1 ∨ why > 6
  · rw [if_pos hw] at h; cases h
  · rw [if_neg hw] at h ⊢
    rcases (show why = 1 ∨ why = 2 ∨ why = 3 ∨ why = 4 ∨ why = 5 ∨ why = 6 by omega) with rfl | rfl | rfl | rfl | rfl | rfl <;> cases six <;> decide
theorem size_extract (s : ByteArray) (a b : Nat) : (s.extract a b).size = min b s.size - a := by
  rw [← bytesOf_length, MBytes.extract, List.length_take, List.length_drop, bytesOf_length]; omega
theorem extract_all (s : ByteArray) : s.extract 0 s.size = s := by
  apply MBytes.inj
  rw [MBytes.extract, List.drop_zero, Nat.sub_zero, List.take_of_length_le (by rw [bytesOf_length]; exact Nat.le_refl _)]
theorem msg_err {six : Bool} {kind : Int} (hk : errK six kind = true) (h0 : 0 ≤ kind) (h1 : kind ≤ 255) (code rest : Int) (data : ByteArray) (b1 : Bool) (h l : Int) (b2 : Bool) (h2 l2 : Int) : errB six (Pure8.layR six kind code rest data b1 h l b2 h2 l2).1 = true := by
  unfold Pure8.layR
  split
  · rfl
  · split
    · rfl
    · simp only
      obtain ⟨c, hc⟩ : ∃ c, Pure8.chk six kind code rest data b1 h l h2 l2 = c := ⟨_, rfl⟩
      rw [hc]
      have hz := Pure8.msg_size kind code rest data c
      have hb : bt (strOfNums (icmp_base_bytes.of kind code rest data c)) 0 = kind := by
        rw [← rd_bytesOf, MBytes.ofNums (Pure8.M_bytes _ _ _ _ _)]
        show kind % 256 = kind
        omega
      unfold errB
      rw [if_neg (by omega), hb, hk]
theorem chain_58 (D : ByteArray) : chainC 58 D = ([], 58, 0, 0) := by
  unfold chainC
  rw [ip6_Chain.l, if_neg (by decide)]; rfl
/-- Nothing is told of what is told, with Six. -/
theorem told_six {D : ByteArray} (hD : (D.size : Int) ≤ 65535) (he : errB true D = true) {h l th tlo : Int} (u1 : U h) (u2 : U l) (u3 : U th) (u4 : U tlo) : mayR (strOfNums (ip6_Lay.of 0 0 58 64 h l th tlo D)) = false := by
  obtain ⟨s, hs⟩ : ∃ s, strOfNums (ip6_Lay.of 0 0 58 64 h l th tlo D) = s := ⟨_, rfl⟩
  have hbs : bytesOf s = ip6_Lay.of 0 0 58 64 h l th tlo D := by rw [← hs]; exact MBytes.ofNums (Pure6.of_bytes _ _ _ _ _ _ _ _ _ (by omega) (by omega))
  rw [hs]
  obtain ⟨t1, t2, t3, t4⟩ := Pure6.take_of (s := s) (B := []) (by rw [List.append_nil]; exact hbs) (show Pure6.may 0 0 58 64 true true by unfold Pure6.may; exact ⟨by omega, by omega, by omega, by omega, rfl, rfl⟩) hD u1 u2 u3 u4
  have h6 : sixB s = true := by unfold sixB; rw [if_neg (by omega), t2]; rfl
  unfold mayR
  rw [h6, if_pos rfl, t1]
  unfold maySixT
  simp only
  rw [chain_58]
  unfold tailB
  simp only [List.all_nil, Bool.true_and]
  rw [show (0 : Int).toNat = 0 from rfl, extract_all, he]
  simp
/-- Nothing is told of what is told, without Six. -/
theorem told_four {D : ByteArray} (hD : (D.size : Int) ≤ 65000) (he : errB false D = true) {b1 b2 : Bool} {h l h2 l2 : Int} (u1 : 0 ≤ l) (u2 : 0 ≤ l2) (hm : Pure4.mayB 0 0 0 64 1 b1 h l b2 h2 l2 ⟨#[]⟩ = true) : mayR (strOfNums (Pure4.ofR 0 0 false false 0 64 1 l l2 ⟨#[]⟩ D)) = false := by
  have c := Pure4.ck_range 0 0 false false 0 64 1 l l2 ⟨#[]⟩ D
  have hS := Pure4.S_ck 0 0 false false 0 64 1 l l2 ⟨#[]⟩ D
  obtain ⟨s, hs⟩ : ∃ s, strOfNums (Pure4.ofR 0 0 false false 0 64 1 l l2 ⟨#[]⟩ D) = s := ⟨_, rfl⟩
  have hbs : bytesOf s = Pure4.pkC 0 0 false false 0 64 1 l l2 ⟨#[]⟩ D (Pure4.ck 0 0 false false 0 64 1 l l2 ⟨#[]⟩ D) := by rw [← hs]; exact MBytes.ofNums (Pure4.pkC_bytes _ _ _ _ _ _ _ _ _ _ _ _)
  rw [hs]
  obtain ⟨t1, t2, t3, _⟩ := Pure4.take_of (s := s) (B := []) (by rw [List.append_nil]; exact hbs) hm (by have : (⟨#[]⟩ : ByteArray).size = 0 := rfl; omega) u1 u2 c.1 c.2 hS
  have h79 := (Pure4.heads_ok (s := s) (by rw [t2])).2.2.1
  have r := bt_range s 0
  have h6 : sixB s = false := by
    unfold sixB
    split
    · rfl
    · rw [beq_eq_false_iff_ne]; omega
  unfold mayR
  rw [h6, if_neg (by decide), t1]
  unfold mayFourT
  simp only
  rw [he]
  simp
theorem cls_four {h l : Int} (hc : cls false h l = 5 ∨ cls false h l = 2) : h = 0 ∧ l < 4294967296 := by
  unfold cls at hc
  by_cases q : h = 0 ∧ l < 4294967296
  · exact q
  · exfalso
    rw [if_neg (by decide), if_pos q] at hc
    rcases hc with hc | hc <;> cases hc
theorem arg_of {why : Int} {six b : Bool} {h l rest : Int} (ha : argB why six b h l rest = true) : (kindR why six).2.2 = true ∧ b = six ∧ (cls b h l = 5 ∨ cls b h l = 2) ∧ 0 ≤ rest ∧ rest ≤ 65535 := by
  unfold argB at ha
  simp only [Bool.and_eq_true, Bool.or_eq_true, decide_eq_true_eq, beq_iff_eq] at ha
  obtain ⟨h1, h2, h3, h4⟩ := ha
  refine ⟨h1, h2, h3, h4.1, ?_⟩
  have := h4.2
  split at this <;> omega
/-- What is told, where it is told: it is told without an error, and nothing is told of it. -/
theorem tell_ok {why : Int} {s : ByteArray} {b : Bool} {h l rest : Int} (uh : U h) (ul : U l) (ha : argB why (sixB s) b h l rest = true) (hm : mayR s = true) :
    (ofR why s b h l rest).2 = 0 ∧ mayR (ofR why s b h l rest).1 = false ∧ (ofR why s b h l rest).1.size ≤ 70000 := by
  obtain ⟨hk, hb, hc, hr0, hr1⟩ := arg_of ha
  obtain ⟨q1, q2, q3⟩ := quote_U s hm
  obtain ⟨e1, e2, e3⟩ := kind_err hk
  unfold ofR
  rw [if_neg (by rw [ha]; decide), if_neg (by rw [hm]; decide)]
  unfold tellR
  have hm2 := hm
  unfold mayR at hm2
  cases h6 : sixB s
  · rw [h6] at hb e1 e2 e3 hm2
    subst hb
    rw [if_neg (by decide)] at hm2
    obtain ⟨f1, f2⟩ := cls_four hc
    subst f1
    have hdat : (quoteR s).1.size ≤ 68 ∧ (quoteR s).2.1 = false ∧ (quoteR s).2.2.1 = 0 ∧ (quoteR s).2.2.2 < 4294967296 := by
      unfold quoteR
      rw [h6, if_neg (by decide)]
      rcases Pure4.take_cases s with hh | ⟨e, e4, e5⟩
      · unfold mayFourT at hm2
        simp only [Bool.and_eq_true, decide_eq_true_eq] at hm2
        exact absurd hm2.1 hh
      · have g := Pure4.heads_ok e4
        have r := Pure4.at_range (MBytes.range s) 12 4
        rw [show (256 : Int) ^ 4 = 4294967296 by decide] at r
        rw [e]
        unfold Pure4.pkt
        simp only
        refine ⟨?_, trivial, trivial, r.2⟩
        rw [size_extract, size_extract, size_extract]
        have g3 := g.2.2.1
        have gh : ip4_heads.hd s = 4 * (bt s 0 - 64) := rfl
        omega
    obtain ⟨d1, d2, d3, d4⟩ := hdat
    rw [if_neg (by decide), d2, d3]
    obtain ⟨D, hD⟩ : ∃ D, (Pure8.layR false (kindR why false).1 (kindR why false).2.1 (restR why false rest) (quoteR s).1 false 0 l false 0 (quoteR s).2.2.2).1 = D := ⟨_, rfl⟩
    have hDs : D.size ≤ 8 + (quoteR s).1.size := by rw [← hD]; exact msg_le _ _ _ _ _ _ _ _ _ _ _
    have hDe : errB false D = true := by rw [← hD]; exact msg_err e1 e2 e3 _ _ _ _ _ _ _ _ _
    rw [hD]
    have hmb : Pure4.mayB 0 0 0 64 1 false 0 l false 0 (quoteR s).2.2.2 ⟨#[]⟩ = true := by
      unfold Pure4.mayB Pure4.inB Pure4.fourB
      simp only [Bool.and_eq_true, decide_eq_true_eq, beq_iff_eq]
      refine ⟨by omega, by omega, by omega, by omega, by omega, ?_, ?_, by decide, by decide, ?_⟩
      · first | exact ⟨rfl, rfl, f2⟩ | (simp; exact f2) | simpa using f2
      · first | exact ⟨rfl, rfl, d4⟩ | (simp; exact d4) | simpa using d4
      · rfl
    unfold Pure4.layR
    rw [hmb, if_pos rfl, if_neg (by have : (⟨#[]⟩ : ByteArray).size = 0 := rfl; omega)]
    refine ⟨rfl, told_four (by omega) hDe ul.1 q2.1 hmb, ?_⟩
    show (strOfNums _).size ≤ 70000
    rw [MBytes.size_ofNums, show Pure4.ofR 0 0 false false 0 64 1 l (quoteR s).2.2.2 ⟨#[]⟩ D = Pure4.pkC 0 0 false false 0 64 1 l (quoteR s).2.2.2 ⟨#[]⟩ D (Pure4.ck 0 0 false false 0 64 1 l (quoteR s).2.2.2 ⟨#[]⟩ D) from rfl, Pure4.pkC_length]
    have : (⟨#[]⟩ : ByteArray).size = 0 := rfl
    omega
  · rw [h6] at hb e1 e2 e3 hm2
    subst hb
    rw [if_pos rfl] at hm2
    have h0 : (Pure6.takeR s).2.2.2.2.2.2.2.2.2.2.2 = 0 := by
      unfold maySixT at hm2
      simp only [Bool.and_eq_true, decide_eq_true_eq] at hm2
      exact hm2.1
    have hdat : (quoteR s).1.size ≤ 1232 ∧ (quoteR s).2.1 = true := by
      unfold quoteR
      rw [h6, if_pos rfl]
      refine ⟨by simp only; rw [size_extract]; omega, ?_⟩
      simp only
      rw [(Pure6.take_ok h0).2.2.2]
    obtain ⟨d1, d2⟩ := hdat
    rw [if_pos rfl, d2]
    obtain ⟨D, hD⟩ : ∃ D, (Pure8.layR true (kindR why true).1 (kindR why true).2.1 (restR why true rest) (quoteR s).1 true h l true (quoteR s).2.2.1 (quoteR s).2.2.2).1 = D := ⟨_, rfl⟩
    have hDs : D.size ≤ 8 + (quoteR s).1.size := by rw [← hD]; exact msg_le _ _ _ _ _ _ _ _ _ _ _
    have hDe : errB true D = true := by rw [← hD]; exact msg_err e1 e2 e3 _ _ _ _ _ _ _ _ _
    rw [hD]
    unfold Pure6.layR
    rw [if_pos (show Pure6.may 0 0 58 64 true true by unfold Pure6.may; exact ⟨by omega, by omega, by omega, by omega, rfl, rfl⟩), if_neg (by omega)]
    refine ⟨rfl, told_six (by omega) hDe uh ul q1 q2, ?_⟩
    show (strOfNums _).size ≤ 70000
    rw [MBytes.size_ofNums, Pure6.of_length]
    omega
theorem of_refused {why : Int} {s : ByteArray} {b : Bool} {h l rest : Int} (hx : ¬ (argB why (sixB s) b h l rest = true ∧ mayR s = true)) : ofR why s b h l rest = (⟨#[]⟩, 1) ∨ ofR why s b h l rest = (⟨#[]⟩, 170) := by
  unfold ofR
  cases ha : argB why (sixB s) b h l rest
  · exact .inl (by rw [if_pos rfl])
  · rw [if_neg (by decide)]
    cases hm : mayR s
    · exact .inr (by rw [if_pos rfl])
    · exact absurd ⟨ha, hm⟩ hx
end Go.Proofs.YtaoopneiglgnkaaDoor.Pure
