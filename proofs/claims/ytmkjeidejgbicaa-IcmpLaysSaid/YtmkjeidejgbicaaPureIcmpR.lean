/-
  What the reference's Lay and Take come to. No program in sight but their Lean functions. Conditions: those of each theorem.
-/
import Derived.Test.YtmkjeidejgbicaaPureTally08R
import Derived.Test.YtmkjeidejgbicaaPBasex9
import Derived.Test.YtmkjeidejgbicaaPureIcmp
import Derived.Test.YtmkjeidejgbicaaMBytes
set_option linter.unusedVariables false
set_option linter.unusedSectionVars false
set_option linter.unusedSimpArgs false
namespace Go.Proofs.Ytmkjeidejgbicaa.Pure
open Go.RowKit Go.Proofs.Ytmkjeidejgbicaa.PBase Go.Proofs.YtmkjeidejgbicaaW.PrintWords Go.Proofs.YtmkjeidejgbicaaW.PrintLast Go.Proofs.YtmkjeidejgbicaaW.PrintMore Go.Proofs.Ytmkjeidejgbicaa.MTally Go.Proofs.Ytmkjeidejgbicaa.MBe
/-! The reference's Get. -/
theorem rget_l0 {l : List Int} (hb : Bytes l) (hl : l.length ≤ 140737488355200) {a w : Nat} (hw : w ≤ 8) (hf : a + w ≤ l.length) : ∀ d i : Nat, w = i + d →
    Ev (fun k => crosswayref01_Get.l0 k l (a : Int) (w : Int) (num ((l.drop a).take i)) (((a + i : Nat) : Int))) (num ((l.drop a).take w), true) := by
  intro d
  induction d with
  | zero =>
    intro i he
    have e : i = w := by omega
    subst e
    refine Ev.step (f := fun _ => _) (fun k => ?_) (Ev.now _)
    simp only [crosswayref01_Get.l0]; rw [w64 (n := (a : Int) + (i : Int)) (by omega) (by omega), if_neg (by omega)]
  | succ d ih =>
    intro i he
    have hlt : a + i < l.length := by omega
    have hbt := byte_at hb hlt
    have hn := num_lt (l := (l.drop a).take i) ((hb.drop _).take _) (by rw [List.length_take]; omega)
    refine Ev.step (f := fun k => crosswayref01_Get.l0 k l (a : Int) (w : Int) (num ((l.drop a).take (i + 1))) ((a + (i + 1) : Nat) : Int)) (fun k => ?_) (ih (i + 1) (by omega))
    simp only [crosswayref01_Get.l0]
    rw [w64 (n := (a : Int) + (w : Int)) (by omega) (by omega), if_pos (by omega), if_pos (by omega), if_pos (by omega), w64 (n := ((a + i : Nat) : Int) + 1) (by omega) (by omega)]
    rw [rd_at hlt, wu64 (n := _ * 256) (by omega) (by omega), wu64 (n := l[a + i]) (by omega) (by omega), wu64 (by omega) (by omega), take_snoc hlt, num_snoc]; rfl
theorem rget_ev {l : List Int} (hb : Bytes l) (hl : l.length ≤ 140737488355200) {a w : Int} (ha : -9223372036854775808 ≤ a ∧ a ≤ 9223372036854775807) (hw : -9223372036854775808 ≤ w ∧ w ≤ 9223372036854775807) :
    Ev (fun k => crosswayref01_Get.f k l a w) (get l a w) := by
  have none_ : ∀ k x0 x1 x2, crosswayref01_Get.j0 (k + 1) x0 x1 x2 true = some (0, false) := fun k x0 x1 x2 => by simp only [crosswayref01_Get.j0]; rw [if_pos trivial]
  have bad : ∀ {a' w' : Int}, Ev (fun k => crosswayref01_Get.j0 k l a' w' true) (0, false) := Ev.step (f := fun _ => _) (fun k => none_ k _ _ _) (Ev.now _)
  unfold crosswayref01_Get.f get
  by_cases h1 : w < 0
  · rw [if_neg (by unfold fits; omega)]; exact ev_pos h1 bad
  refine ev_neg h1 ?_
  by_cases h2 : w > 8
  · rw [if_neg (by unfold fits; omega)]; exact ev_pos h2 bad
  refine ev_neg h2 ?_
  by_cases h3 : a < 0
  · rw [if_neg (by unfold fits; omega)]; exact ev_pos h3 bad
  refine ev_neg h3 ?_
  by_cases h4 : a > (l.length : Int)
  · rw [if_neg (by unfold fits; omega)]; exact ev_pos h4 bad
  refine ev_neg h4 ?_
  rw [w64 (n := (l.length : Int) - a) (by omega) (by omega)]
  by_cases h5 : w > (l.length : Int) - a
  · rw [if_neg (by unfold fits; omega), decide_eq_true h5]; exact bad
  rw [if_pos (by unfold fits; omega), decide_eq_false h5]
  obtain ⟨an, rfl⟩ := Int.eq_ofNat_of_zero_le (show 0 ≤ a by omega)
  obtain ⟨wn, rfl⟩ := Int.eq_ofNat_of_zero_le (show 0 ≤ w by omega)
  have h := rget_l0 hb hl (a := an) (w := wn) (by omega) (by omega) wn 0 (by omega)
  refine Ev.step (f := fun k => crosswayref01_Get.l0 k l (an : Int) (wn : Int) 0 (an : Int)) (fun k => ?_) ?_
  · simp only [crosswayref01_Get.j0]; rw [if_neg (by decide)]
  · exact h
theorem rlaid_ev {h1 l1 h2 l2 : Int} (u1 : PureT.U h1) (u2 : PureT.U l1) (u3 : PureT.U h2) (u4 : PureT.U l2) (six : Bool) (kind code rest : Int) (data : ByteArray) (check : Int) (hs : data.size ≤ 65000) (hk : 0 ≤ kind ∧ kind < 256) (hc : 0 ≤ code ∧ code < 256) (hr : 0 ≤ rest ∧ rest < 4294967296) (hch : R check) :
    Ev (fun k => crosswayref08_laid.f k six kind code rest data check) (icmp_base_bytes.of kind code rest data check) := by
  unfold crosswayref08_laid.f icmp_base_bytes.of
  unfold R at hch
  rw [wu64 (n := rest) (by omega) (by omega)]
  have e1 : ∀ n : Int, be n 1 = [n % 256] := fun n => by simp [be]
  have p1 := PureT.rput_ev [] 1 kind (by omega) (by simp)
  rw [show PureT.wid 1 = 1 by decide, e1, List.nil_append] at p1
  have p2 := PureT.rput_ev [kind % 256] 1 code (by omega) (by simp)
  rw [show PureT.wid 1 = 1 by decide, e1] at p2
  have p3 := PureT.rput_ev ([kind % 256] ++ [code % 256]) 2 check (by omega) (by simp)
  rw [show PureT.wid 2 = 2 by decide] at p3
  have p4 := PureT.rput_ev ([kind % 256] ++ [code % 256] ++ be check 2) 4 rest (by omega) (by simp [be_length])
  rw [show PureT.wid 4 = 4 by decide] at p4
  rw [wu64 (n := kind) (by omega) (by omega), wu64 (n := code) (by omega) (by omega), wu64 (n := check) (by omega) (by omega)]
  refine Ev.bind p1 (Ev.bind p2 (Ev.bind p3 (Ev.bind p4 (ev_pos ?_ (ev_eq fun _ => rfl)))))
  simp only [List.length_append, be_length, List.length_cons, List.length_nil]; omega
theorem rsum8_ev {h1 l1 h2 l2 : Int} (u1 : PureT.U h1) (u2 : PureT.U l1) (u3 : PureT.U h2) (u4 : PureT.U l2) (l : List Int) (hb : Bytes l) (hl : l.length ≤ 140737488351232) (six b1 b2 : Bool) : Ev (fun k => crosswayref08_sum.f k l six b1 h1 l1 b2 h2 l2) (oadd (ps six b1 h1 l1 h2 l2 (l.length : Int)) (S l)) := by
  unfold crosswayref08_sum.f ps
  refine Ev.bind (PureT.rsum_ev l hb hl) ?_
  by_cases h : six = true
  · rw [if_pos h, oadd_comm]
    exact ev_pos h (Ev.bind (PureT.rpseudo_ev b1 h1 l1 b2 h2 l2 _ 58 u1 u2 u3 u4) (ev_bind (PureT.radd_eq (S_R hb) (S_R (PureT.ends_bytes _ _ _ _ _ _ _))) (ev_eq fun _ => rfl)))
  · rw [if_neg h, zero_oadd (S_R hb)]
    exact ev_neg h (ev_eq fun _ => rfl)
theorem rlay_ev {h1 l1 h2 l2 : Int} (u1 : PureT.U h1) (u2 : PureT.U l1) (u3 : PureT.U h2) (u4 : PureT.U l2) (six : Bool) (kind code rest : Int) (data : ByteArray) (b1 b2 : Bool) : Ev (fun k => crosswayref08_Lay.f k six kind code rest data b1 h1 l1 b2 h2 l2) (layR six kind code rest data b1 h1 l1 b2 h2 l2) := by
  have bad : Ev (fun k => crosswayref08_Lay.j0 k true six kind code rest data b1 h1 l1 b2 h2 l2) (⟨#[]⟩, 70) :=
    Ev.step (f := fun _ => some (⟨#[]⟩, 70)) (fun k => by simp only [crosswayref08_Lay.j0]; rw [if_pos trivial]) (ev_eq fun _ => rfl)
  unfold crosswayref08_Lay.f layR
  refine ev_bind (right_eq ..) ?_
  by_cases hm : may kind code rest data.size = true
  · have hs := may_size hm
    have good : ¬ (six = true ∧ (b1 && b2) = false) → Ev (fun k => crosswayref08_Lay.j0 k false six kind code rest data b1 h1 l1 b2 h2 l2) (strOfNums (icmp_base_bytes.of kind code rest data (chk six kind code rest data b1 h1 l1 h2 l2)), 0) := by
      intro _
      have hl := icmp_base_bytes.of_length kind code rest data 0
      have hR := chk_R six kind code rest data b1 h1 l1 h2 l2
      refine Ev.step (f := fun k => (crosswayref08_laid.f k six kind code rest data 0).bind fun t268 => ((crosswayref08_sum.f k t268 six b1 h1 l1 b2 h2 l2).bind fun t271 => ((crosswayref08_laid.f k six kind code rest data (IntKind.u16.wrap (65535 - t271))).bind fun t272 => (some (strOfNums t272, 0))))) (fun k => by simp only [crosswayref08_Lay.j0]; rw [if_neg (by decide)]) ?_
      refine Ev.bind (rlaid_ev u1 u2 u3 u4 six kind code rest data 0 hs.2.2.2 hs.1 hs.2.1 hs.2.2.1 R_zero) (Ev.bind (rsum8_ev u1 u2 u3 u4 _ (M_bytes kind code rest data 0) (by omega) six b1 b2) ?_)
      have e : IntKind.u16.wrap (65535 - oadd (ps six b1 h1 l1 h2 l2 ((icmp_base_bytes.of kind code rest data 0).length : Int)) (S (icmp_base_bytes.of kind code rest data 0))) = chk six kind code rest data b1 h1 l1 h2 l2 := by
        rw [hl]
        have : ((8 + data.size : Nat) : Int) = 8 + (data.size : Int) := by omega
        rw [this]
        unfold R at hR
        exact PureT.w16 hR.1 hR.2
      rw [e]
      exact Ev.bind (rlaid_ev u1 u2 u3 u4 six kind code rest data _ hs.2.2.2 hs.1 hs.2.1 hs.2.2.1 hR) (ev_eq fun _ => rfl)
    refine ev_pos hm ?_
    by_cases h6 : six = true
    · refine ev_pos h6 ?_
      cases b1 with
      | false => rw [if_pos ⟨h6, rfl⟩]; exact ev_neg (by decide) bad
      | true =>
        refine ev_pos rfl ?_
        cases b2 with
        | false => rw [if_pos ⟨h6, rfl⟩]; exact bad
        | true => rw [if_neg (by simp), if_neg (by simpa using hm)]; exact good (by simp)
    · rw [if_neg (by simp [h6]), if_neg (by simpa using hm)]
      exact ev_neg h6 (good (by simp [h6]))
  · refine ev_neg hm ?_
    have e : may kind code rest data.size = false := by simpa using hm
    by_cases ho : six = true ∧ (b1 && b2) = false
    · rw [if_pos ho]; exact bad
    · rw [if_neg ho, if_pos e]; exact bad
theorem rtake_ev {h1 l1 h2 l2 : Int} (u1 : PureT.U h1) (u2 : PureT.U l1) (u3 : PureT.U h2) (u4 : PureT.U l2) (s : ByteArray) (hsz : s.size ≤ 140737488351232) (six b1 b2 : Bool) : Ev (fun k => crosswayref08_Take.f k s six b1 h1 l1 b2 h2 l2) (takeR s six b1 h1 l1 b2 h2 l2) := by
  have bad : Ev (fun k => crosswayref08_Take.j0 k s six true b1 h1 l1 b2 h2 l2) (false, 0, 0, 0, ⟨#[]⟩, 70) :=
    Ev.step (f := fun _ => some (false, 0, 0, 0, ⟨#[]⟩, 70)) (fun k => by simp only [crosswayref08_Take.j0]; rw [if_pos trivial]) (ev_eq fun _ => rfl)
  have hb := MBytes.range s
  have hl := bytesOf_length s
  have good : ¬ (six = true ∧ (b1 && b2) = false) → Ev (fun k => crosswayref08_Take.j0 k s six false b1 h1 l1 b2 h2 l2) (takeR s six b1 h1 l1 b2 h2 l2) := by
    intro ho
    unfold takeR
    rw [if_neg ho]
    refine Ev.step (fun k => by simp only [crosswayref08_Take.j0]; rw [if_neg (by decide)]) ?_
    by_cases h8 : s.size < 8
    · rw [if_pos h8]; exact ev_pos (by omega) (ev_eq fun _ => rfl)
    rw [if_neg h8]
    refine ev_neg (by omega) (ev_pos (by omega) (Ev.bind (rsum8_ev u1 u2 u3 u4 _ hb (by omega) six b1 b2) ?_))
    rw [hl]
    by_cases hc : oadd (ps six b1 h1 l1 h2 l2 (s.size : Int)) (S (bytesOf s)) ≠ 65535
    · rw [if_pos hc]; exact ev_neg hc (ev_eq fun _ => rfl)
    rw [if_neg hc]
    refine ev_pos (by simpa using hc) ?_
    by_cases hg : 65008 < s.size
    · rw [if_pos hg]; exact ev_pos (by omega) (ev_eq fun _ => rfl)
    rw [if_neg hg]
    have hx := MBytes.extract s 4 8
    have hn := num4 hb
    have hlen : (bytesOf (s.extract 4 8)).length = 4 := by rw [hx]; simp; omega
    have hgt := rget_ev (l := bytesOf (s.extract 4 8)) (a := 0) (w := 4) (MBytes.range _) (by omega) (by omega) (by omega)
    have e : get (bytesOf (s.extract 4 8)) 0 4 = (num (((bytesOf s).drop 4).take 4), true) := by
      unfold get
      rw [if_pos (by unfold fits; omega)]
      unfold slice_
      rw [hx]
      congr 2
      simp [List.take_take]
    rw [e] at hgt
    have hsx : (s.extract 4 8).size = 4 := by rw [← bytesOf_length]; exact hlen
    have r0 := bt_range s 0
    have r1 := bt_range s 1
    refine ev_neg (by omega) (ev_pos (by omega) (ev_pos (by omega) (ev_pos (by omega) (Ev.bind hgt (ev_pos (by omega) (ev_pos (by omega) (ev_eq fun _ => ?_)))))))
    rw [w64 (n := bt s 0) (by omega) (by omega), w64 (n := bt s 1) (by omega) (by omega), w64 (by omega) (by omega)]
  unfold crosswayref08_Take.f
  by_cases h6 : six = true
  · refine ev_pos h6 ?_
    cases b1 with
    | false => unfold takeR; rw [if_pos ⟨h6, rfl⟩]; exact ev_neg (by decide) bad
    | true =>
      refine ev_pos rfl ?_
      cases b2 with
      | false => unfold takeR; rw [if_pos ⟨h6, rfl⟩]; exact bad
      | true => exact good (by simp)
  · exact ev_neg h6 (good (by simp [h6]))
end Go.Proofs.Ytmkjeidejgbicaa.Pure
