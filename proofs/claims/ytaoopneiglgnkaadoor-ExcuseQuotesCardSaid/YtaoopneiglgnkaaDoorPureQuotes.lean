/-
  What is told of a packet, taken up again: whom it goes to, its message, what is quoted. No program in sight but its Lean functions. Conditions: those of each theorem.
-/
import Derived.Test.YtaoopneiglgnkaaDoorPureTold
set_option linter.unusedVariables false
set_option linter.unusedSectionVars false
set_option linter.unusedSimpArgs false
namespace Go.Proofs.YtaoopneiglgnkaaDoor.Pure
open Go.RowKit Go.Proofs.YtaoopneiglgnkaaDoor.PBase Go.Proofs.YtaoopneiglgnkaaDoorW.PrintWords Go.Proofs.YtaoopneiglgnkaaDoorW.PrintLast Go.Proofs.YtaoopneiglgnkaaDoorW.PrintMore Go.Proofs.YtaoopneiglgnkaaDoor.MTally Go.Proofs.YtaoopneiglgnkaaDoor.MBe
theorem kind_num {why : Int} {six : Bool} (h : (kindR why six).2.2 = true) : (0 ≤ (kindR why six).1 ∧ (kindR why six).1 < 256) ∧ (0 ≤ (kindR why six).2.1 ∧ (kindR why six).2.1 < 256) ∧ 1 ≤ why ∧ why ≤ 6 := by
  unfold kindR at h ⊢
  by_cases hw : why < 1 ∨ why > 6
  · rw [if_pos hw] at h; cases h
  · rw [if_neg hw] at h ⊢
    rcases (show why = 1 ∨ why = 2 ∨ why = 3 ∨ why = 4 ∨ why = 5 ∨ why = 6 by omega) with rfl | rfl | rfl | rfl | rfl | rfl <;> cases six <;> decide
theorem rest_num {why rest : Int} {six : Bool} (h0 : 0 ≤ rest) (h1 : rest ≤ 65535) (h2 : why = 6 ∧ six = false → rest ≤ 255) : 0 ≤ restR why six rest ∧ restR why six rest < 4294967296 := by
  unfold restR
  split
  · rename_i h
    have := h2 h
    rw [w64 (by omega) (by omega)]
    omega
  · split
    · omega
    · split <;> omega
theorem told_of {why : Int} {s : ByteArray} {b : Bool} {h l rest : Int} (e : (ofR why s b h l rest).2 = 0) : argB why (sixB s) b h l rest = true ∧ mayR s = true := by
  refine Decidable.byContradiction fun hx => ?_
  rcases of_refused hx with q | q <;> rw [q] at e <;> cases e
theorem arg_255 {why : Int} {six b : Bool} {h l rest : Int} (ha : argB why six b h l rest = true) (hw : why = 6 ∧ six = false) : rest ≤ 255 := by
  unfold argB at ha
  simp only [Bool.and_eq_true, decide_eq_true_eq] at ha
  have := ha.2.2.2
  rw [if_pos hw] at this
  exact this.2
/-- A message's bytes, taken up. -/
theorem msg_back {six : Bool} {kind code rst : Int} {data : ByteArray} (hm : Pure8.may kind code rst data.size = true) (b1 : Bool) (h1 l1 : Int) (b2 : Bool) (h2 l2 : Int) (hb : six = true → (b1 && b2) = true) :
    ∃ D : ByteArray, Pure8.layR six kind code rst data b1 h1 l1 b2 h2 l2 = (D, 0) ∧ D.size = 8 + data.size ∧ Pure8.takeR D six b1 h1 l1 b2 h2 l2 = (six, kind, code, rst, data, 0) := by
  have ho : ¬ (six = true ∧ (b1 && b2) = false) := fun q => by have := hb q.1; rw [this] at q; cases q.2
  unfold Pure8.layR
  rw [if_neg ho, if_neg (by rw [hm]; decide)]
  exact ⟨_, rfl, Pure8.msg_size .., Pure8.take_lay six kind code rst data b1 h1 l1 b2 h2 l2 ho hm (Pure8.chk_R ..) (Pure8.sum_back ..)⟩
theorem extract_self {s : ByteArray} {n : Nat} : s.extract 0 n = s.extract 0 (s.extract 0 n).size := by
  apply MBytes.inj
  rw [MBytes.extract, MBytes.extract, size_extract]
  simp only [List.drop_zero, Nat.sub_zero]
  rcases Nat.le_total n s.size with q | q
  · rw [Nat.min_eq_left q]
  · rw [Nat.min_eq_right q, List.take_of_length_le (by rw [bytesOf_length]; exact q), List.take_of_length_le (by rw [bytesOf_length]; exact Nat.le_refl _)]
/-- With Six. -/
theorem quotes_six {why : Int} {s : ByteArray} {h l rest : Int} (uh : U h) (ul : U l) (e : (ofR why s true h l rest).2 = 0) :
    ∃ (S D data d : ByteArray) (kind code rst cl fl nx hp ph pl qh ql : Int), ofR why s true h l rest = (S, 0) ∧ excuse_Kind.f why true = some (kind, code, true) ∧ Pure6.takeR s = (cl, fl, nx, hp, true, ph, pl, true, qh, ql, d, 0) ∧
      Pure6.takeR S = (0, 0, 58, 64, true, h, l, true, ph, pl, D, 0) ∧ Pure8.takeR D true true h l true ph pl = (true, kind, code, rst, data, 0) ∧ errK true kind = true ∧ 0 ≤ kind ∧ data = s.extract 0 data.size ∧ data.size ≤ s.size ∧
      (data.size : Int) = mn (40 + (d.size : Int)) 1232 ∧ d.size ≤ 65535 ∧ S.size ≤ 1280 ∧ D.size ≤ 1240 ∧ U ph ∧ U pl := by
  obtain ⟨ha, hm⟩ := told_of e
  obtain ⟨hk, hb, hc, hr0, hr1⟩ := arg_of ha
  obtain ⟨k1, k2, k3⟩ := kind_num hk
  have h6 : sixB s = true := hb.symm
  rw [h6] at ha hk k1 k2
  have hm2 := hm
  unfold mayR at hm2
  rw [h6, if_pos rfl] at hm2
  have h0 : (Pure6.takeR s).2.2.2.2.2.2.2.2.2.2.2 = 0 := by
    unfold maySixT at hm2
    simp only [Bool.and_eq_true, decide_eq_true_eq] at hm2
    exact hm2.1
  obtain ⟨g1, g2, g3, ht⟩ := Pure6.take_ok h0
  have hd := six_data s
  obtain ⟨q1, q2, q3⟩ := quote_U s hm
  have hq0 : quoteR s = (s.extract 0 (min (40 + (Pure6.takeR s).2.2.2.2.2.2.2.2.2.2.1.size) 1232), (Pure6.takeR s).2.2.2.2.1, (Pure6.takeR s).2.2.2.2.2.1, (Pure6.takeR s).2.2.2.2.2.2.1) := by
    unfold quoteR; rw [h6, if_pos rfl]
  have hsz : 40 + (Pure6.takeR s).2.2.2.2.2.2.2.2.2.2.1.size ≤ s.size := by
    rw [ht]; simp only; rw [size_extract]
    have r := Pure6.at_range (MBytes.range s) 4 2
    omega
  obtain ⟨cl, fl, nx, hp, b5, ph, pl, b8, qh, ql, d, z, ht2⟩ : ∃ cl fl nx hp b5 ph pl b8 qh ql d z, Pure6.takeR s = (cl, fl, nx, hp, b5, ph, pl, b8, qh, ql, d, z) := ⟨_, _, _, _, _, _, _, _, _, _, _, _, rfl⟩
  have hb5 : b5 = true ∧ b8 = true ∧ z = 0 := by
    rw [ht] at ht2
    simp only [Prod.mk.injEq] at ht2
    exact ⟨ht2.2.2.2.2.1.symm, ht2.2.2.2.2.2.2.2.1.symm, ht2.2.2.2.2.2.2.2.2.2.2.2.symm⟩
  obtain ⟨rfl, rfl, rfl⟩ := hb5
  rw [ht2] at hq0 hsz hd
  simp only at hq0 hsz hd
  rw [hq0] at q1 q2
  simp only at q1 q2
  have hds : (s.extract 0 (min (40 + d.size) 1232)).size = min (40 + d.size) 1232 := by rw [size_extract]; omega
  have hself := extract_self (s := s) (n := min (40 + d.size) 1232)
  obtain ⟨data, hdat⟩ : ∃ data, s.extract 0 (min (40 + d.size) 1232) = data := ⟨_, rfl⟩
  have hrn := rest_num (why := why) (six := true) hr0 hr1 (fun q => by cases q.2)
  have hof : ofR why s true h l rest = Pure6.layR 0 0 58 64 true h l true ph pl (Pure8.layR true (kindR why true).1 (kindR why true).2.1 (restR why true rest) data true h l true ph pl).1 := by
    unfold ofR
    rw [h6, if_neg (by rw [ha]; decide), if_neg (by rw [hm]; decide), hq0]
    unfold tellR
    rw [if_pos rfl, hdat]
  rw [hdat] at hds hself
  obtain ⟨D, hD, hDs, hDt⟩ := msg_back (six := true) (kind := (kindR why true).1) (code := (kindR why true).2.1) (rst := restR why true rest) (data := data) (by
    unfold Pure8.may
    rw [decide_eq_true_eq]
    exact ⟨k1.1, k1.2, k2.1, k2.2, hrn.1, hrn.2, by omega⟩) true h l true ph pl (fun _ => rfl)
  rw [hD] at hof
  have hlay : Pure6.layR 0 0 58 64 true h l true ph pl D = (strOfNums (ip6_Lay.of 0 0 58 64 h l ph pl D), 0) := by
    unfold Pure6.layR
    rw [if_pos (show Pure6.may 0 0 58 64 true true by unfold Pure6.may; exact ⟨by omega, by omega, by omega, by omega, rfl, rfl⟩), if_neg (by omega)]
  rw [show (D, (0 : Int)).1 = D from rfl, hlay] at hof
  have hbs : bytesOf (strOfNums (ip6_Lay.of 0 0 58 64 h l ph pl D)) = ip6_Lay.of 0 0 58 64 h l ph pl D := MBytes.ofNums (Pure6.of_bytes _ _ _ _ _ _ _ _ _ (by omega) (by omega))
  obtain ⟨t1, t2, t3, t4⟩ := Pure6.take_of (s := strOfNums (ip6_Lay.of 0 0 58 64 h l ph pl D)) (B := []) (by rw [List.append_nil]; exact hbs) (show Pure6.may 0 0 58 64 true true by unfold Pure6.may; exact ⟨by omega, by omega, by omega, by omega, rfl, rfl⟩) (by omega) uh ul q1 q2
  refine ⟨_, D, data, d, (kindR why true).1, (kindR why true).2.1, restR why true rest, cl, fl, nx, hp, ph, pl, qh, ql, hof, ?_, ht2, t1, hDt, (kind_err hk).1, k1.1, hself, by omega, ?_, by omega, ?_, by omega, q1, q2⟩
  · rw [kind_eq]; exact congrArg some (Prod.ext rfl (Prod.ext rfl hk))
  · rw [hds, show (40 : Int) + (d.size : Int) = ((40 + d.size : Nat) : Int) by omega, show (1232 : Int) = ((1232 : Nat) : Int) from rfl, mn_eq]
  · rw [t4]; simp only [List.length_nil]; omega
/-- Without. -/
theorem quotes_four {why : Int} {s : ByteArray} {h l rest : Int} (uh : U h) (ul : U l) (e : (ofR why s false h l rest).2 = 0) :
    ∃ (S D data opts d : ByteArray) (kind code rst tos id off ttl proto pl ql : Int) (df mf : Bool), h = 0 ∧ ofR why s false h l rest = (S, 0) ∧ excuse_Kind.f why false = some (kind, code, true) ∧ Pure4.takeR s = (tos, id, df, mf, off, ttl, proto, false, 0, pl, false, 0, ql, opts, d, 0) ∧
      Pure4.takeR S = (0, 0, false, false, 0, 64, 1, false, 0, l, false, 0, pl, ⟨#[]⟩, D, 0) ∧ Pure8.takeR D false false 0 l false 0 pl = (false, kind, code, rst, data, 0) ∧ errK false kind = true ∧ 0 ≤ kind ∧ data = s.extract 0 data.size ∧ data.size ≤ s.size ∧
      (data.size : Int) = 20 + (opts.size : Int) + mn (d.size : Int) 8 ∧ opts.size ≤ 60 ∧ d.size ≤ 65535 ∧ S.size ≤ 70000 ∧ D.size ≤ 1240 ∧ U pl := by
  obtain ⟨ha, hm⟩ := told_of e
  obtain ⟨hk, hb, hc, hr0, hr1⟩ := arg_of ha
  obtain ⟨k1, k2, k3⟩ := kind_num hk
  have h6 : sixB s = false := hb.symm
  rw [h6] at ha hk k1 k2
  obtain ⟨f1, f2⟩ := cls_four hc
  subst f1
  have hm2 := hm
  unfold mayR at hm2
  rw [h6, if_neg (by decide)] at hm2
  obtain ⟨q1, q2, q3⟩ := quote_U s hm
  rcases Pure4.take_cases s with hh | ⟨ht, e4, e5⟩
  · unfold mayFourT at hm2
    simp only [Bool.and_eq_true, decide_eq_true_eq] at hm2
    exact absurd hm2.1 hh
  have g := Pure4.heads_ok e4
  have h00 : (Pure4.takeR s).2.2.2.2.2.2.2.2.2.2.2.2.2.2.2 = 0 := by rw [ht]; rfl
  have hz := Pure4.take_sizes h00
  have r := Pure4.at_range (MBytes.range s) 12 4
  rw [show (256 : Int) ^ 4 = 4294967296 by decide] at r
  have hq0 : quoteR s = (s.extract 0 (20 + (Pure4.takeR s).2.2.2.2.2.2.2.2.2.2.2.2.2.1.size + min 8 (Pure4.takeR s).2.2.2.2.2.2.2.2.2.2.2.2.2.2.1.size), (Pure4.takeR s).2.2.2.2.2.2.2.1, (Pure4.takeR s).2.2.2.2.2.2.2.2.1, (Pure4.takeR s).2.2.2.2.2.2.2.2.2.1) := by
    unfold quoteR; rw [h6, if_neg (by decide)]
  have hop : (Pure4.takeR s).2.2.2.2.2.2.2.2.2.2.2.2.2.1.size ≤ 60 := by
    rw [ht]
    unfold Pure4.pkt
    simp only
    rw [size_extract]
    have g3 := g.2.2.1
    have gh : ip4_heads.hd s = 4 * (bt s 0 - 64) := rfl
    omega
  obtain ⟨tos, id, df, mf, off, ttl, proto, b8, p9, pl, b11, p12, ql, opts, d, z, ht2⟩ : ∃ tos id df mf off ttl proto b8 p9 pl b11 p12 ql opts d z, Pure4.takeR s = (tos, id, df, mf, off, ttl, proto, b8, p9, pl, b11, p12, ql, opts, d, z) := ⟨_, _, _, _, _, _, _, _, _, _, _, _, _, _, _, _, rfl⟩
  have hb8 : b8 = false ∧ p9 = 0 ∧ b11 = false ∧ p12 = 0 ∧ z = 0 ∧ pl = Pure4.at_ (bytesOf s) 12 4 := by
    rw [ht] at ht2
    unfold Pure4.pkt at ht2
    simp only [Prod.mk.injEq] at ht2
    obtain ⟨_, _, _, _, _, _, _, a, b, c, d, e, _, _, _, f⟩ := ht2
    exact ⟨a.symm, b.symm, d.symm, e.symm, f.symm, c.symm⟩
  obtain ⟨rfl, rfl, rfl, rfl, rfl, hpl⟩ := hb8
  rw [ht2] at hq0 hz hop
  simp only at hq0 hz hop
  have hds : (s.extract 0 (20 + opts.size + min 8 d.size)).size = 20 + opts.size + min 8 d.size := by rw [size_extract]; omega
  have hself := extract_self (s := s) (n := 20 + opts.size + min 8 d.size)
  obtain ⟨data, hdat⟩ : ∃ data, s.extract 0 (20 + opts.size + min 8 d.size) = data := ⟨_, rfl⟩
  have hrn := rest_num (why := why) (six := false) hr0 hr1 (fun q => arg_255 ha q)
  have hof : ofR why s false 0 l rest = Pure4.layR 0 0 false false 0 64 1 false 0 l false 0 pl ⟨#[]⟩ (Pure8.layR false (kindR why false).1 (kindR why false).2.1 (restR why false rest) data false 0 l false 0 pl).1 := by
    unfold ofR
    rw [h6, if_neg (by rw [ha]; decide), if_neg (by rw [hm]; decide), hq0]
    unfold tellR
    rw [if_neg (by decide), hdat]
  rw [hdat] at hds hself
  obtain ⟨D, hD, hDs, hDt⟩ := msg_back (six := false) (kind := (kindR why false).1) (code := (kindR why false).2.1) (rst := restR why false rest) (data := data) (by
    unfold Pure8.may
    rw [decide_eq_true_eq]
    exact ⟨k1.1, k1.2, k2.1, k2.2, hrn.1, hrn.2, by omega⟩) false 0 l false 0 pl (fun q => by cases q)
  rw [hD] at hof
  have hmb : Pure4.mayB 0 0 0 64 1 false 0 l false 0 pl ⟨#[]⟩ = true := by
    unfold Pure4.mayB Pure4.inB Pure4.fourB
    simp only [Bool.and_eq_true, decide_eq_true_eq, beq_iff_eq]
    refine ⟨by omega, by omega, by omega, by omega, by omega, ?_, ?_, by decide, by decide, ?_⟩
    · first | exact ⟨rfl, rfl, f2⟩ | (simp; exact f2) | simpa using f2
    · first | exact ⟨rfl, rfl, hpl ▸ r.2⟩ | (simp; omega)
    · rfl
  have h00' : (⟨#[]⟩ : ByteArray).size = 0 := rfl
  have hlay : Pure4.layR 0 0 false false 0 64 1 false 0 l false 0 pl ⟨#[]⟩ D = (strOfNums (Pure4.ofR 0 0 false false 0 64 1 l pl ⟨#[]⟩ D), 0) := by
    unfold Pure4.layR
    rw [hmb, if_pos rfl, if_neg (by omega)]
  rw [show (D, (0 : Int)).1 = D from rfl, hlay] at hof
  have c := Pure4.ck_range 0 0 false false 0 64 1 l pl ⟨#[]⟩ D
  have hbs : bytesOf (strOfNums (Pure4.ofR 0 0 false false 0 64 1 l pl ⟨#[]⟩ D)) = Pure4.pkC 0 0 false false 0 64 1 l pl ⟨#[]⟩ D (Pure4.ck 0 0 false false 0 64 1 l pl ⟨#[]⟩ D) := MBytes.ofNums (Pure4.pkC_bytes _ _ _ _ _ _ _ _ _ _ _ _)
  obtain ⟨t1, t2, t3, _⟩ := Pure4.take_of (s := strOfNums (Pure4.ofR 0 0 false false 0 64 1 l pl ⟨#[]⟩ D)) (B := []) (by rw [List.append_nil]; exact hbs) hmb (by omega) ul.1 (by omega) c.1 c.2 (Pure4.S_ck 0 0 false false 0 64 1 l pl ⟨#[]⟩ D)
  refine ⟨_, D, data, opts, d, (kindR why false).1, (kindR why false).2.1, restR why false rest, tos, id, off, ttl, proto, pl, ql, df, mf, rfl, hof, ?_, ht2, t1, hDt, (kind_err hk).1, k1.1, hself, by omega, ?_, hop, by omega, ?_, by omega, ?_⟩
  · rw [kind_eq]; exact congrArg some (Prod.ext rfl (Prod.ext rfl hk))
  · have e8 : mn (d.size : Int) 8 = ((min d.size 8 : Nat) : Int) := by rw [show (8 : Int) = ((8 : Nat) : Int) from rfl, mn_eq]
    rw [hds, e8]; omega
  · rw [t3]; simp only [List.length_nil]; omega
  · unfold U; omega
end Go.Proofs.YtaoopneiglgnkaaDoor.Pure
