/-
  The calls of the document's epoch in memory. Conditions: those of each theorem.
-/
import Derived.Test.YtmepodmcmpndoaaWEpoch5
import Derived.Test.YtmepodmcmpndoaaMEpochRef
set_option linter.unusedVariables false
set_option linter.unusedSimpArgs false
namespace Go.Proofs.Ytmepodmcmpndoaa.WEp
open Go.RowKit Go.Proofs.Ytmepodmcmpndoaa.PBase Go.Proofs.YtmepodmcmpndoaaW.PrintWords Go.Proofs.YtmepodmcmpndoaaW.PrintLast Go.Proofs.YtmepodmcmpndoaaW.PrintMore Go.Proofs.Ytmepodmcmpndoaa.Ep Go.Proofs.Ytmepodmcmpndoaa.EpM Go.MuLone
/-- How far it has come: all below this was given back. -/
def upTo (n0 old k : Nat) : Nat := max n0 (min k old)
theorem upTo_zero (n0 old : Nat) : upTo n0 old 0 = n0 := by unfold upTo; omega
theorem upTo_stop {n0 old k : Nat} (h : old ≤ k) : upTo n0 old (k + 1) = upTo n0 old k := by unfold upTo; omega
theorem upTo_skip {n0 old k : Nat} (h : k < n0) : upTo n0 old (k + 1) = upTo n0 old k := by unfold upTo; omega
theorem upTo_next {n0 old k : Nat} (h : n0 ≤ k) (h2 : k < old) : upTo n0 old k = k ∧ upTo n0 old (k + 1) = k + 1 := by unfold upTo; omega
theorem take_drop_snoc {H : List Int} {n0 k : Nat} (h1 : n0 ≤ k) (h2 : k < H.length) : (H.take (k + 1)).drop n0 = (H.take k).drop n0 ++ [H.getD k 0] := by
  rw [take_succ_getD h2, List.drop_append_of_le_length (by rw [List.length_take]; omega)]
section
variable {w : World} {B g a b i : Nat} {H : List Int} {G : List Bool} {rd : List Int}
set_option maxHeartbeats 4000000 in
set_option maxRecDepth 100000 in
theorem rback_calls (n0 m old : Nat) (L : List Int) (hLL : (H.take old).drop n0 = L) (h : RMem w B g a b i H (givenOf n0 m) rd) (hm : H.length = m) (hm1 : 1 ≤ m) (hm2 : m ≤ 1000) (h0 : n0 ≤ old) (h1 : old + 1 ≤ m) (hR : rd.length ≤ 16) (hw : ∀ k : Nat, k + 1 < m → waitsFor (k : Int) rd = decide (old ≤ k)) :
    Calls Try.prog 28 #[.pointer (some ⟨g, 0, none⟩)] w fun e w' => ∃ V, e = .returned V ∧ w'.ownsRow w.heap.size 3 1 V L.length (nums .i64 L) ∧ RMem w' B g a b i H (givenOf old m) rd ∧ Fr (fun k => k = b) w w' := by
  have HM0 := Aside0.mk h
  have HLL := Aside0.mk hLL
  clear hLL
  have HH := Aside0.mk hm
  have HW := Aside0.mk hw
  have hlt0 := h.lt
  have HLT := Aside0.mk hlt0
  obtain ⟨R, hRe⟩ : ∃ R, rd.length = R := ⟨_, rfl⟩
  rw [hRe] at hR
  have HRD := Aside0.mk hRe
  clear h hm hw hlt0 hRe
  go_enter Try.func28, Try.ntmps28
  go_wp2_with fail
  go_loopg [3, 4] m (fun kq v3 v4 w' => ∃ k : Nat, v4 = .int .i64 (k : Int) ∧ Aside0 (k + kq = m ∧ k + 1 ≤ m) ∧ Aside0 (w'.ownsRow w.heap.size 3 1 v3 ((H.take (upTo n0 old k)).drop n0).length (nums .i64 ((H.take (upTo n0 old k)).drop n0))) ∧ Aside0 (RMem w' B g a b i H (givenOf (upTo n0 old k) m) rd) ∧ Aside0 (Fr (fun k => k = b) w w'))
  case atStart => exact ⟨0, rfl, ⟨by omega, by omega⟩, ⟨by rw [upTo_zero, show (H.take n0).drop n0 = [] from List.drop_eq_nil_of_le (by rw [List.length_take]; omega)]; exact own_nil _ _ _ _⟩, ⟨by rw [upTo_zero]; exact HM0.out⟩, ⟨Fr.refl _ _⟩⟩
  case round =>
    obtain ⟨k, rfl, HK, HV, HM, HF⟩ := hrel
    obtain ⟨ca, cb, ci, ⟨x0, x1, x2⟩, ⟨f0, f1, f2⟩, hA, hG, hI⟩ := HM.out.cells
    rw [HH.out] at x0 hA
    rw [givenOf_length] at x1 hG
    rw [HRD.out] at x2 hI
    have HA := Aside0.mk hA
    have HG := Aside0.mk hG
    have HI := Aside0.mk hI
    have hkm : k ≤ m := by have := HK.out; omega
    clear hA hG hI f0 f1 f2
    by_cases hlt : k + 1 < m
    · have hlt2 : (k : Int) + 1 < (m : Int) := by omega
      have HWK := Aside0.mk (HW.out k hlt)
      have HLK := Aside0.mk hlt
      clear hlt
      go_wp2_with fail
      go_loop [5, 6] (fun v5 v6 => ∃ j : Nat, j ≤ R ∧ v5 = .bool (waitsFor (k : Int) (rd.take j)) ∧ v6 = .int .i64 (j : Int)) (fun _ v6 => R - (intOf v6).toNat)
      case atStart => exact ⟨0, Nat.zero_le _, rfl, rfl⟩
      case round =>
        obtain ⟨j, hjR, rfl, rfl⟩ := hrel
        by_cases hlj : j < R
        · have hc := (HI.out.cell j hlj).1
          have hst := Aside0.mk (waitsFor_step (n := (k : Int)) (rd := rd) (k := j) (by rw [HRD.out]; exact hlj))
          obtain ⟨x, hx⟩ : ∃ x, rd.getD j 0 = x := ⟨_, rfl⟩
          rw [hx] at hc hst
          clear hx
          cases hwj : waitsFor (k : Int) (rd.take j) with
          | true =>
            rw [hwj] at hst
            clear hwj
            go_wp2
            go_round
            case rel => exact ⟨j + 1, by omega, by rw [hst.out]; rfl, by go_num⟩
            case measure => simp [intOf]; omega
          | false =>
            rw [hwj] at hst
            clear hwj
            by_cases hx0 : 0 ≤ x
            · by_cases hxk : x ≤ (k : Int)
              · go_wp2
                go_round
                case rel => exact ⟨j + 1, by omega, by rw [hst.out, decide_eq_true ⟨hx0, hxk⟩]; first | rfl | simp [hx0, hxk], by go_num⟩
                case measure => simp [intOf]; omega
              · go_wp2
                go_round
                case rel => exact ⟨j + 1, by omega, by rw [hst.out, decide_eq_false (fun z => hxk z.2)]; first | rfl | simp [hx0, hxk], by go_num⟩
                case measure => simp [intOf]; omega
            · go_wp2
              go_round
              case rel => exact ⟨j + 1, by omega, by rw [hst.out, decide_eq_false (fun z => hx0 z.1)]; first | rfl | simp [hx0], by go_num⟩
              case measure => simp [intOf]; omega
        · obtain rfl : j = R := by omega
          rw [show waitsFor (k : Int) (rd.take j) = decide (old ≤ k) by rw [List.take_of_length_le (by rw [HRD.out]; exact Nat.le_refl _)]; exact HWK.out]
          have HIR := Aside0.mk (show rd.length = j from HRD.out)
          clear hlj hjR
          by_cases hold : old ≤ k
          · have hd : decide (old ≤ k) = true := decide_eq_true hold
            rw [hd]
            have hu := upTo_stop (n0 := n0) hold
            have HU := Aside0.mk hu
            clear hd hold hu
            go_wp2_with fail
            go_roundg (gk - 1)
            case measure => have := HK.out; have := HLK.out; omega
            case rel => exact ⟨k + 1, by go_num, ⟨by have := HK.out; have := HLK.out; omega⟩, ⟨by rw [HU.out]; exact HV.out⟩, ⟨by rw [HU.out]; exact HM.out⟩, HF⟩
          · have hd : decide (old ≤ k) = false := decide_eq_false hold
            rw [hd]
            obtain ⟨hg1, hg2⟩ := HG.out.cell k (by have := HLK.out; omega)
            rw [givenOf_get _ (by have := HLK.out; omega)] at hg1
            by_cases hkn : k < n0
            · rw [decide_eq_true (show k < upTo n0 old k by unfold upTo; omega)] at hg1
              have HU := Aside0.mk (upTo_skip (old := old) hkn)
              clear hd hold hkn hg2
              go_wp2_with fail
              go_roundg (gk - 1)
              case measure => have := HK.out; have := HLK.out; omega
              case rel => exact ⟨k + 1, by go_num, ⟨by have := HK.out; have := HLK.out; omega⟩, ⟨by rw [HU.out]; exact HV.out⟩, ⟨by rw [HU.out]; exact HM.out⟩, HF⟩
            · obtain ⟨u1, u2⟩ := upTo_next (n0 := n0) (old := old) (k := k) (by omega) (by omega)
              rw [decide_eq_false (show ¬ k < upTo n0 old k by rw [u1]; omega)] at hg1
              have hca := (HA.out.cell k (by have := HLK.out; omega)).1
              obtain ⟨y, hy⟩ : ∃ y, H.getD k 0 = y := ⟨_, rfl⟩
              rw [hy] at hca
              have HY := Aside0.mk hy
              have HU := Aside0.mk (And.intro u1 u2)
              have HKN := Aside0.mk (show n0 ≤ k by omega)
              have hm3 := HM.out.setG k true
              have hsk : (givenOf (upTo n0 old k) m).set k true = givenOf (upTo n0 old (k + 1)) m := by rw [u1, u2]; exact givenOf_set k m (by have := HLK.out; omega)
              rw [hsk] at hm3
              have hV3 : (wr.setCell ⟨b, k, none⟩ (.bool true)).ownsRow w.heap.size 3 1 u3 _ _ := (Fr.set wr b k (.bool true)).own HV.out (fun q e x => by have h1 := own_base HV.out q e; have h2 := (HLT.out b (.inr (.inr (.inl rfl)))).2; omega)
              have hF3 : Fr (fun k => k = b) w (wr.setCell ⟨b, k, none⟩ (.bool true)) := HF.out.trans (Fr.set _ _ _ _) (fun q hq => .inl hq)
              clear hd hold hkn hy u1 u2 hsk
              go_upto_region 12 with (fail)
              obtain ⟨w3, hw3⟩ : ∃ w3, wr.setCell ⟨b, k, none⟩ (.bool true) = w3 := ⟨_, rfl⟩
              rw [hw3] at hm3 hV3 hF3 ⊢
              clear hw3 hg1 hg2 hca x0 x1
              obtain ⟨ca, cb, ci, ⟨x0, x1, x2⟩, _, hA, hG, hI⟩ := hm3.cells
              rw [HH.out] at x0 hA
              have hca := (hA.cell k (by have := HLK.out; omega)).1
              rw [HY.out] at hca
              have HM3 := Aside0.mk hm3
              have HV3 := Aside0.mk hV3
              have HF3 := Aside0.mk hF3
              have hkm2 : (k : Int) < (m : Int) := by omega
              clear hm3 hV3 hF3 x1 x2 hA hG hI
              have hlen9 := Aside0.mk (show ((H.take (upTo n0 old k)).drop n0).length ≤ 1000 by rw [List.length_drop, List.length_take, HH.out]; omega)
              go_wp2_with (at_builtin; refine print_append_num (w0 := w3) w.heap.size rfl _ _ 33 3 .i64 8 rfl Try.underlying33 (by kernel_rfl) (by decide) u3 ((H.take (upTo n0 old k)).drop n0) y rfl rfl ?c1 ?c2 ?c3 ?c4 ?_; (case c1 => exact HV3.out); (case c2 => exact Below.refl _ _); (case c3 => exact HF3.out.size); (case c4 => have h9 := hlen9.out; omega); intro v1 w4 ho hb hg hat; have HO := Aside0.mk ho; have HG4 := Aside0.mk hg; clear ho hb hg hat)
              have hob := own_base HV3.out
              have hF4 : Fr (fun k => k = b) w w4 := HF3.out.trans (Fr.of_grown (X := fun q => u3.ownBlock = some q) HG4.out (fun q hq => hq)) (fun q hq => .inr (hob q hq))
              have hM4 : RMem w4 B g a b i H (givenOf (upTo n0 old (k + 1)) m) rd := HM3.out.keep (Fr.of_grown (X := fun q => u3.ownBlock = some q) HG4.out (fun q hq => hq)) (fun q hq hi => by have h1 := hob q hq; have h2 := HLT.out q hi; omega)
              have hL : (H.take (upTo n0 old k)).drop n0 ++ [y] = (H.take (upTo n0 old (k + 1))).drop n0 := by
                rw [HU.out.1, HU.out.2, ← HY.out]
                exact (take_drop_snoc HKN.out (by rw [HH.out]; have := HLK.out; omega)).symm
              have HV4 := Aside0.mk (show w4.ownsRow w.heap.size 3 1 v1 ((H.take (upTo n0 old (k + 1))).drop n0).length (nums .i64 ((H.take (upTo n0 old (k + 1))).drop n0)) from by rw [← hL]; exact HO.out)
              have HM4 := Aside0.mk hM4
              have HF4 := Aside0.mk hF4
              clear hob hF4 hM4 hL HO HG4
              go_wp2_with fail
              go_roundg (gk - 1)
              case measure => have := HK.out; have := HLK.out; omega
              case rel => exact ⟨k + 1, by go_num, ⟨by have := HK.out; have := HLK.out; omega⟩, HV4, HM4, HF4⟩
    · have hge : ¬ ((k : Int) + 1 < (m : Int)) := by omega
      have hu : upTo n0 old k = old := by have := HK.out; unfold upTo; omega
      rw [hu] at HV HM
      rw [HLL.out] at HV
      clear hlt hu
      go_wp2_with fail
      go_ret
      exact ⟨_, rfl, HV.out, HM.out, HF.out⟩
set_option maxHeartbeats 1000000 in
set_option maxRecDepth 100000 in
theorem rcurrent_calls (h : RMem w B g a b i H G rd) (h1 : 1 ≤ H.length) (h2 : H.length ≤ 1000) :
    Calls Try.prog 20 #[.pointer (some ⟨g, 0, none⟩)] w fun e w' => e = .returned (.int .i64 (H.getD (H.length - 1) 0)) ∧ Drawn0 w w' := by
  obtain ⟨ca, cb, ci, ⟨x0, x1, x2⟩, _, hA, hG, hI⟩ := h.cells
  have hc := (hA.cell (H.length - 1) (by omega)).1
  obtain ⟨x, hx⟩ : ∃ x, H.getD (H.length - 1) 0 = x := ⟨_, rfl⟩
  obtain ⟨L, hL⟩ : ∃ L, H.length = L := ⟨_, rfl⟩
  rw [hx] at hc ⊢
  rw [hL] at hc x0 h1 h2
  obtain ⟨j, hj⟩ : ∃ j : Nat, L - 1 = j := ⟨_, rfl⟩
  have e2 : IntKind.i64.wrap ((L : Int) - 1) = (j : Int) := by rw [show (L : Int) - 1 = (j : Int) by omega]; exact IntWalk.i64_in _ (by omega)
  have hjl : (j : Int) < (L : Int) := by omega
  rw [hj] at hc
  clear h hA hG hI x1 x2 hx hL hj
  go_enter Try.func20, Try.ntmps20
  go_wp2_with fail
  go_quiet (fail)
  go_wp2_with fail
  go_ret
  exact ⟨rfl, ⟨_, rfl⟩⟩
end
end Go.Proofs.Ytmepodmcmpndoaa.WEp
