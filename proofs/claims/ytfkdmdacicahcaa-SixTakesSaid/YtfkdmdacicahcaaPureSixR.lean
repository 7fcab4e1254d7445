/-
  What the reference's functions of layer 7 come to. No program in sight but their Lean functions. Conditions: those of each theorem.
-/
import Derived.Test.YtfkdmdacicahcaaPBasex12
import Derived.Test.YtfkdmdacicahcaaPureSixLay
set_option linter.unusedVariables false
set_option linter.unusedSectionVars false
set_option linter.unusedSimpArgs false
namespace Go.Proofs.Ytfkdmdacicahcaa.Pure
open Go.RowKit Go.Proofs.Ytfkdmdacicahcaa.PBase Go.Proofs.YtfkdmdacicahcaaW.PrintWords Go.Proofs.YtfkdmdacicahcaaW.PrintLast Go.Proofs.YtfkdmdacicahcaaW.PrintMore Go.Proofs.Ytfkdmdacicahcaa.MTally Go.Proofs.Ytfkdmdacicahcaa.MBe
/-! The reference's Get. -/
theorem rget_l0 {l : List Int} (hb : Bytes l) (hl : l.length ≤ 140737488355200) {a w : Nat} (hw : w ≤ 8) (hf : a + w ≤ l.length) : ∀ d i : Nat, w = i + d →
    Ev (fun k => crosswayref01_Get.l0 k l (a : Int) (w : Int) (num ((l.drop a).take i)) (((a + i : Nat) : Int))) (num ((l.drop a).take w), true) := by
  intro d
  induction d with
  | zero =>
    intro i he
    have e : i = w := by omega
    subst e
    refine Ev.step (f := fun _ => _) (fun k => ?_) (Ev.now _)
    simp only [crosswayref01_Get.l0]; rw [w64 (n := (a : Int) + (i : Int)) (by omega) (by omega), if_neg (by omega)]
  | succ d ih =>
    intro i he
    have hlt : a + i < l.length := by omega
    have hbt := byte_at hb hlt
    have hn := num_lt (l := (l.drop a).take i) ((hb.drop _).take _) (by rw [List.length_take]; omega)
    refine Ev.step (f := fun k => crosswayref01_Get.l0 k l (a : Int) (w : Int) (num ((l.drop a).take (i + 1))) ((a + (i + 1) : Nat) : Int)) (fun k => ?_) (ih (i + 1) (by omega))
    simp only [crosswayref01_Get.l0]
    rw [w64 (n := (a : Int) + (w : Int)) (by omega) (by omega), if_pos (by omega), if_pos (by omega), if_pos (by omega), w64 (n := ((a + i : Nat) : Int) + 1) (by omega) (by omega)]
    rw [rd_at hlt, wu64 (n := _ * 256) (by omega) (by omega), wu64 (n := l[a + i]) (by omega) (by omega), wu64 (by omega) (by omega), take_snoc hlt, num_snoc]; rfl
theorem rget_ev {l : List Int} (hb : Bytes l) (hl : l.length ≤ 140737488355200) {a w : Int} (ha : -9223372036854775808 ≤ a ∧ a ≤ 9223372036854775807) (hw : -9223372036854775808 ≤ w ∧ w ≤ 9223372036854775807) :
    Ev (fun k => crosswayref01_Get.f k l a w) (get l a w) := by
  have none_ : ∀ k x0 x1 x2, crosswayref01_Get.j0 (k + 1) x0 x1 x2 true = some (0, false) := fun k x0 x1 x2 => by simp only [crosswayref01_Get.j0]; rw [if_pos trivial]
  have bad : ∀ {a' w' : Int}, Ev (fun k => crosswayref01_Get.j0 k l a' w' true) (0, false) := Ev.step (f := fun _ => _) (fun k => none_ k _ _ _) (Ev.now _)
  unfold crosswayref01_Get.f get
  by_cases h1 : w < 0
  · rw [if_neg (by unfold fits; omega)]; exact ev_pos h1 bad
  refine ev_neg h1 ?_
  by_cases h2 : w > 8
  · rw [if_neg (by unfold fits; omega)]; exact ev_pos h2 bad
  refine ev_neg h2 ?_
  by_cases h3 : a < 0
  · rw [if_neg (by unfold fits; omega)]; exact ev_pos h3 bad
  refine ev_neg h3 ?_
  by_cases h4 : a > (l.length : Int)
  · rw [if_neg (by unfold fits; omega)]; exact ev_pos h4 bad
  refine ev_neg h4 ?_
  rw [w64 (n := (l.length : Int) - a) (by omega) (by omega)]
  by_cases h5 : w > (l.length : Int) - a
  · rw [if_neg (by unfold fits; omega), decide_eq_true h5]; exact bad
  rw [if_pos (by unfold fits; omega), decide_eq_false h5]
  obtain ⟨an, rfl⟩ := Int.eq_ofNat_of_zero_le (show 0 ≤ a by omega)
  obtain ⟨wn, rfl⟩ := Int.eq_ofNat_of_zero_le (show 0 ≤ w by omega)
  have h := rget_l0 hb hl (a := an) (w := wn) (by omega) (by omega) wn 0 (by omega)
  refine Ev.step (f := fun k => crosswayref01_Get.l0 k l (an : Int) (wn : Int) 0 (an : Int)) (fun k => ?_) ?_
  · simp only [crosswayref01_Get.j0]; rw [if_neg (by decide)]
  · exact h
theorem rnum_ev (s : ByteArray) (hs : s.size ≤ 140737488351232) {i w : Nat} (hw : w ≤ 8) (h : i + w ≤ s.size) : Ev (fun k => crosswayref07_num.f k s (i : Int) (w : Int)) (at_ (bytesOf s) i w) := by
  unfold crosswayref07_num.f
  have e : wrap64 ((i : Int) + (w : Int)) = ((i + w : Nat) : Int) := by rw [w64 (by omega) (by omega)]; omega
  rw [e, Int.toNat_natCast, Int.toNat_natCast]
  have hx : bytesOf (s.extract i (i + w)) = ((bytesOf s).drop i).take w := by rw [MBytes.extract]; congr 1; omega
  have hl : (((bytesOf s).drop i).take w).length = w := by rw [List.length_take, List.length_drop, bytesOf_length]; omega
  have hsz : (s.extract i (i + w)).size = w := by rw [← bytesOf_length, hx, hl]
  have hg := rget_ev (l := ((bytesOf s).drop i).take w) (a := 0) (w := (w : Int)) (Bytes.take (Bytes.drop (MBytes.range s) _) _) (by omega) (by omega) (by omega)
  have eg : get (((bytesOf s).drop i).take w) 0 (w : Int) = (at_ (bytesOf s) i w, true) := by
    unfold get
    rw [if_pos (by unfold fits; omega)]
    unfold slice_ at_
    simp [List.take_take]
  rw [eg] at hg
  rw [hx]
  exact ev_pos (by omega) (ev_pos (by omega) (ev_pos (by omega) (ev_pos (by omega) (Ev.bind hg (ev_eq fun _ => rfl)))))
theorem rtake_ev (s : ByteArray) (hs : s.size ≤ 140737488351232) : Ev (fun k => crosswayref07_Take.f k s) (takeR s) := by
  unfold crosswayref07_Take.f takeR
  by_cases h40 : (s.size : Int) < 40
  · rw [if_pos h40]; exact ev_pos h40 (ev_eq fun _ => rfl)
  rw [if_neg h40]
  have hb := MBytes.range s
  have ht := first_top s (by omega)
  have r0 := at_range hb 0 4; have r4 := at_range hb 4 2; have r6 := at_range hb 6 1; have r7 := at_range hb 7 1
  have nev : ∀ (i w : Nat), w ≤ 8 → i + w ≤ 40 → Ev (fun k => crosswayref07_num.f k s (i : Int) (w : Int)) (at_ (bytesOf s) i w) := fun i w hw hi => rnum_ev s hs hw (by omega)
  have e0 : wrap64 (at_ (bytesOf s) 0 4) = at_ (bytesOf s) 0 4 := w64 (by omega) (by omega)
  have e1 : wrap64 (Int.tdiv (at_ (bytesOf s) 0 4) 268435456) = bt s 0 / 16 := by
    rw [Int.tdiv_eq_ediv_of_nonneg r0.1, ht]; have := bt_range s 0; exact w64 (by omega) (by omega)
  have e2 : wrap64 (Int.tdiv (at_ (bytesOf s) 0 4) 1048576) = at_ (bytesOf s) 0 4 / 1048576 := by
    rw [Int.tdiv_eq_ediv_of_nonneg r0.1]; exact w64 (by omega) (by omega)
  refine ev_neg h40 (Ev.bind (nev 0 4 (by omega) (by omega)) ?_)
  rw [e0, e1]
  by_cases h6 : ¬ bt s 0 / 16 = 6
  · rw [if_pos h6]; exact ev_neg h6 (ev_eq fun _ => rfl)
  rw [if_neg h6]
  refine ev_pos (by omega) (Ev.bind (nev 4 2 (by omega) (by omega)) ?_)
  have e3 : wrap64 (40 + wrap64 (at_ (bytesOf s) 4 2)) = 40 + at_ (bytesOf s) 4 2 := by
    rw [w64 (n := at_ (bytesOf s) 4 2) (by omega) (by omega)]; exact w64 (by omega) (by omega)
  rw [e3]
  by_cases hn : (s.size : Int) - 40 < at_ (bytesOf s) 4 2
  · rw [if_pos hn]; exact ev_pos (by omega) (ev_eq fun _ => rfl)
  rw [if_neg hn]
  refine ev_neg (by omega) (Ev.bind (nev 6 1 (by omega) (by omega)) (Ev.bind (nev 7 1 (by omega) (by omega)) (ev_pos (by omega) (ev_pos (by omega) (Ev.bind (nev 8 8 (by omega) (by omega)) (Ev.bind (nev 16 8 (by omega) (by omega)) (Ev.bind (nev 24 8 (by omega) (by omega)) (Ev.bind (nev 32 8 (by omega) (by omega)) (ev_eq fun _ => ?_)))))))))
  rw [e2, w64 (n := at_ (bytesOf s) 6 1) (by omega) (by omega), w64 (n := at_ (bytesOf s) 7 1) (by omega) (by omega), Int.tmod_eq_emod_of_nonneg (by omega), Int.tmod_eq_emod_of_nonneg (by omega)]
theorem rhop_ev (s : ByteArray) (hs : s.size ≤ 140737488351232) : Ev (fun k => crosswayref07_Hop.f k s) (hopR s) := by
  unfold crosswayref07_Hop.f
  refine Ev.bind (rtake_ev s hs) ?_
  by_cases h0 : ¬ (takeR s).2.2.2.2.2.2.2.2.2.2.2 = 0
  · have e : hopR s = (⟨#[]⟩, (takeR s).2.2.2.2.2.2.2.2.2.2.2) := by unfold hopR; rw [if_pos h0]
    rw [e]; exact ev_pos h0 (ev_eq fun _ => rfl)
  refine ev_neg h0 ?_
  obtain ⟨h40, h6, hn, ht⟩ := take_ok (by simpa using h0)
  by_cases h2 : (takeR s).2.2.2.1 < 2
  · have e : hopR s = (⟨#[]⟩, 63) := by unfold hopR; rw [if_neg h0, if_pos h2]
    rw [e]; exact ev_pos h2 (ev_eq fun _ => rfl)
  have e : hopR s = (ip6_Hop.of s (40 + (takeR s).2.2.2.2.2.2.2.2.2.2.1.size), 0) := by unfold hopR; rw [if_neg h0, if_neg h2]
  rw [e]
  refine ev_neg h2 ?_
  have hb := MBytes.range s
  have r0 := at_range hb 0 4; have r4 := at_range hb 4 2; have r6 := at_range hb 6 1; have r7 := at_range hb 7 1
  have x1 := at_range hb 8 8; have x2 := at_range hb 16 8; have x3 := at_range hb 24 8; have x4 := at_range hb 32 8
  have hd := data_size h40 hn
  rw [ht] at h2 ⊢
  simp only at h2 ⊢
  rw [hop_of h40 h6 hn h2]
  refine ev_pos (by omega) ?_
  have h := rlay_ev (at_ (bytesOf s) 0 4 / 1048576 % 256) (at_ (bytesOf s) 0 4 % 1048576) (at_ (bytesOf s) 6 1) (at_ (bytesOf s) 7 1 - 1) true (fh := at_ (bytesOf s) 8 8) (flo := at_ (bytesOf s) 16 8) true (th := at_ (bytesOf s) 24 8) (tlo := at_ (bytesOf s) 32 8) (s.extract 40 (40 + at_ (bytesOf s) 4 2).toNat) (by omega) (by omega) (by omega) (by omega) (by omega)
  have el : layR (at_ (bytesOf s) 0 4 / 1048576 % 256) (at_ (bytesOf s) 0 4 % 1048576) (at_ (bytesOf s) 6 1) (at_ (bytesOf s) 7 1 - 1) true (at_ (bytesOf s) 8 8) (at_ (bytesOf s) 16 8) true (at_ (bytesOf s) 24 8) (at_ (bytesOf s) 32 8) (s.extract 40 (40 + at_ (bytesOf s) 4 2).toNat) = (strOfNums (ip6_Lay.of (at_ (bytesOf s) 0 4 / 1048576 % 256) (at_ (bytesOf s) 0 4 % 1048576) (at_ (bytesOf s) 6 1) (at_ (bytesOf s) 7 1 - 1) (at_ (bytesOf s) 8 8) (at_ (bytesOf s) 16 8) (at_ (bytesOf s) 24 8) (at_ (bytesOf s) 32 8) (s.extract 40 (40 + at_ (bytesOf s) 4 2).toNat)), 0) := by
    unfold layR
    exact (if_pos ⟨by omega, by omega, by omega, by omega, rfl, rfl⟩).trans (if_neg (by omega))
  rw [el] at h
  exact h
theorem SixTakes (s : ByteArray) (hs : s.size ≤ 140737488351232) : ∃ k, crosswaylaw07_SixTakes.f k s = some true := by
  refine Ev.rounds (r := true) ?_
  unfold crosswaylaw07_SixTakes.f
  exact Ev.bind awake_ev (Ev.bind (take_ev s hs) (Ev.bind (rtake_ev s hs) (Ev.bind (hop_ev s hs) (Ev.bind (rhop_ev s hs) (ev_pos rfl (ev_pos (by simp) (ev_pos rfl (ev_pos rfl (ev_eq fun _ => by simp)))))))))
end Go.Proofs.Ytfkdmdacicahcaa.Pure
