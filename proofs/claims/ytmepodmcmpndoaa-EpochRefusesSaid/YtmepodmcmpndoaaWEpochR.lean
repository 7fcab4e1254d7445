/-
  The law EpochRefuses: who is no reader, who is in already, who is out, is refused, and nothing is changed; for any number of readers, any steps and any number of a reader. Conditions: those of each theorem.
-/
import Derived.Test.YtmepodmcmpndoaaWEpoch5
set_option linter.unusedVariables false
set_option linter.unusedSimpArgs false
namespace Go.Proofs.Ytmepodmcmpndoaa.WEp
open Go.RowKit Go.Proofs.Ytmepodmcmpndoaa.PBase Go.Proofs.YtmepodmcmpndoaaW.PrintWords Go.Proofs.YtmepodmcmpndoaaW.PrintLast Go.Proofs.YtmepodmcmpndoaaW.PrintMore Go.Proofs.Ytmepodmcmpndoaa.Ep Go.Proofs.Ytmepodmcmpndoaa.EpM Go.MuLone
set_option maxHeartbeats 8000000 in
set_option maxRecDepth 100000 in
theorem refuses (n0 : Int) (A2 : Option Addr) (c2 : Nat) (ls : List S32) (rr : Int) (w : World) (hr2 : Kd.C k32 w A2 ls.length ls) (hc2 : ls.length ≤ c2) (hl2 : ls.length ≤ 140737488351232) :
    Calls Try.prog 7 #[.int .i64 n0, .slice A2 ls.length c2, .int .i64 rr] w fun e w' => e = .returned (.bool true) ∧ Below w.heap.size w w' := by
  have HR := Aside0.mk hr2
  obtain ⟨M, N, hM, hN, hM0, hM1, hN1, hN2⟩ := readers_of n0
  clear hr2 hc2
  go_enter Try.func7, Try.ntmps7
  go_wp2_with fail
  refine (awake_calls w).mono ?_
  rintro e w1 ⟨rfl, hb⟩
  have HB1 := Aside0.mk hb
  clear hb
  go_wp2_with fail
  refine (new_calls N 0 w1 hN1 hN2).mono ?_
  rintro e w2 ⟨g, a, r, s, rfl, hm, hb⟩
  have HM := Aside0.mk (hm.lower HB1.out.size)
  have HB := Aside0.mk (below_step HB1.out hb)
  have HI := Aside0.mk (Inv.made hN1 hN2 0)
  have HN := Aside0.mk hN
  clear hb hm HB1 hM hM0 hM1 hN
  go_wp2_with fail
  go_loopg [10] 100 (fun kq v8 w' => ∃ (i a : Nat) (st : St), v8 = .int .i64 (i : Int) ∧ Aside0 (i + kq = 100) ∧ Aside0 (Inv N i st) ∧ Aside0 (Mem 56 w' w.heap.size g a r s 0 st) ∧ Aside0 (Below w.heap.size w w'))
  case atStart => exact ⟨0, a, _, rfl, ⟨rfl⟩, HI, HM, HB⟩
  case round =>
    clear HI HM HB
    obtain ⟨i, a, st, rfl, HK, HI, HM, HB⟩ := hrel
    have hk := HK.out
    by_cases hgo : i < ls.length ∧ i < 100
    · obtain ⟨h1, h2⟩ := hgo
      obtain ⟨ad0, e0, hx0, hx1⟩ := at_take HR.out h1
      subst e0
      obtain ⟨x, hx⟩ : ∃ x, ls[i].f0 = x := ⟨_, rfl⟩
      obtain ⟨y, hy⟩ : ∃ y, ls[i].f1 = y := ⟨_, rfl⟩
      rw [hx] at hx0
      rw [hy] at hx1
      replace hx0 := pw_cell_below HB.out hx0
      replace hx1 := pw_cell_below HB.out hx1
      obtain ⟨ji, hji⟩ : ∃ ji : Int, (i : Int) = ji := ⟨_, rfl⟩
      rw [show i * 2 = ji.toNat * 2 by omega] at hx0 hx1
      have q0 : (0 : Int) ≤ ji := by omega
      have q1 : ji < (ls.length : Int) := by omega
      have q2 : ji < 100 := by omega
      rw [hji]
      have HJ := Aside0.mk hji
      obtain ⟨q, hq, hq0, hq3⟩ := and3_of x
      obtain ⟨m, hm, hm0, hm15⟩ := and15_of y
      have hbig := HI.out.big (by omega)
      have hgl := HB.out.size
      have HIB := Aside0.mk h2
      clear h1 h2 hji hx hy hk
      by_cases z0 : q = 0
      · subst z0
        go_wp2_with fail
        refine (publish_calls HM.out hgl HI.out.ok hbig _).mono ?_
        rintro e w3 ⟨a', q', cq, rfl, hqr, hmm, hle, hqa, hf⟩
        have HB3 := Aside0.mk (hf.below HB.out hgl (fun k hk => (HM.out.lt k hk).1))
        have HM3 := Aside0.mk hmm
        clear hqr hmm hle hqa hf hx0 hx1
        go_wp2_with fail
        go_roundg (gk - 1)
        case measure => have := HK.out; have := HIB.out; omega
        case rel => exact ⟨i + 1, a', _, by have := HJ.out; go_num, ⟨by have := HK.out; have := HIB.out; omega⟩, ⟨HI.out.publish _⟩, HM3, HB3⟩
      · by_cases z1 : q = 1
        · subst z1
          go_wp2_with fail
          refine (enter_calls HM.out HI.out.ok hbig _).mono ?_
          rintro e w3 ⟨⟨v3, x3, rfl, _⟩, hmm, hf⟩
          have HB3 := Aside0.mk (hf.below HB.out hgl (fun k hk => (HM.out.lt k hk).1))
          have HM3 := Aside0.mk hmm
          clear hmm hf hx0 hx1
          go_wp2_with fail
          go_roundg (gk - 1)
          case measure => have := HK.out; have := HIB.out; omega
          case rel => exact ⟨i + 1, a, _, by have := HJ.out; go_num, ⟨by have := HK.out; have := HIB.out; omega⟩, ⟨HI.out.enter _⟩, HM3, HB3⟩
        · go_wp2_with fail
          refine (leave_calls HM.out HI.out.ok hbig _).mono ?_
          rintro e w3 ⟨a', ⟨V, x3, rfl, _⟩, hmm, hf⟩
          have HB3 := Aside0.mk (hf.below HB.out hgl (fun k hk => (HM.out.lt k hk).1))
          have HM3 := Aside0.mk hmm
          clear hmm hf hx0 hx1
          go_wp2_with fail
          go_roundg (gk - 1)
          case measure => have := HK.out; have := HIB.out; omega
          case rel => exact ⟨i + 1, a', _, by have := HJ.out; go_num, ⟨by have := HK.out; have := HIB.out; omega⟩, ⟨HI.out.leave _⟩, HM3, HB3⟩
    · have HI2 := Aside0.mk (HI.out.more (j := 100) (by have := HK.out; omega))
      have hex : ¬ i < ls.length ∨ (i < ls.length ∧ ¬ i < 100) := by by_cases h : i < ls.length; exact .inr ⟨h, fun z => hgo ⟨h, z⟩⟩; exact .inl h
      clear hgo hk HI HK
      rcases hex with h1 | ⟨h1, h2⟩
      all_goals
        have hgl := HB.out.size
        have hbig := HI2.out.big (by omega)
        have hbig2 := HI2.out.big2 (by omega)
        obtain ⟨n2, hn2⟩ : ∃ n2, st.wait.length = n2 := ⟨_, rfl⟩
        have HN2 := Aside0.mk hn2
        clear hn2
        go_wp2_with fail
        clear h1
        refine (waiting_calls HM.out HI2.out.ok hbig2).mono ?_
        rintro e w3 ⟨q, cq, rfl, hq, hmm, hf⟩
        have HQ := Aside0.mk (Kp.new HM.out hq (.inl rfl))
        rw [HN2.out] at HQ ⊢
        replace HB := Aside0.mk (hf.below HB.out hgl (fun k hk => by rw [hk]; exact HM.out.bg))
        replace HM := Aside0.mk hmm
        clear hmm hf hq
        go_wp2_with fail
        refine (seen_calls HM.out HI2.out.ok rr).mono ?_
        rintro e w4 ⟨rfl, hmm, hf⟩
        replace HB := Aside0.mk (hf.below HB.out HB.out.size (fun k hk => by rw [hk]; exact HM.out.bg))
        replace HM := Aside0.mk hmm
        replace HQ := Aside0.mk (HQ.out.step (frI (a := a) (r := r) (s := s) hf) (.inl rfl))
        clear hmm hf
        have HRD := Aside0.mk HI2.out.rd
        cases hin : st.isIn rr with
        | true =>
          obtain ⟨r1, r2, r3⟩ := isIn_iff.1 hin
          rw [HRD.out] at r2
          have hout : st.isOut rr = false := by
            unfold St.isOut
            exact decide_eq_false (fun h => r3 h.2.2)
          have HE := Aside0.mk (show st.enter rr = st by unfold St.enter; rw [if_neg (by rw [hout]; decide)])
          have HO := Aside0.mk hout
          have HIN := Aside0.mk hin
          obtain ⟨v, hv⟩ : ∃ v, st.sees rr = v := ⟨_, rfl⟩
          have HV := Aside0.mk hv
          rw [hv]
          clear hout hin r3 hv
          go_wp2_with fail
          refine (enter_calls HM.out HI2.out.ok hbig rr).mono ?_
          rintro e w5 ⟨⟨v5, x5, rfl, h5⟩, hmm, hf⟩
          obtain ⟨rfl, rfl⟩ : v5 = 0 ∧ x5 = 120 := by rcases h5 with h | h; exact absurd (h.1.symm.trans HO.out) (by decide); exact ⟨h.2.1, h.2.2⟩
          rw [HE.out] at hmm
          replace HB := Aside0.mk (hf.below HB.out HB.out.size (fun k hk => (HM.out.lt k hk).1))
          replace HQ := Aside0.mk (HQ.out.step hf (.inl rfl))
          replace HM := Aside0.mk hmm
          clear hmm hf h5
          go_wp2_with fail
          refine (seen_calls HM.out HI2.out.ok rr).mono ?_
          rintro e w6 ⟨rfl, hmm, hf⟩
          rw [HV.out, HIN.out]
          replace HB := Aside0.mk (hf.below HB.out HB.out.size (fun k hk => by rw [hk]; exact HM.out.bg))
          replace HM := Aside0.mk hmm
          replace HQ := Aside0.mk (HQ.out.step (frI (a := a) (r := r) (s := s) hf) (.inl rfl))
          clear hmm hf
          go_wp2_with fail
          refine (waiting_calls HM.out HI2.out.ok hbig2).mono ?_
          rintro e w7 ⟨q', cq', rfl, hq, hmm, hf⟩
          rw [HN2.out] at hq ⊢
          have HQ2 := Aside0.mk hq
          replace HB := Aside0.mk (hf.below HB.out HB.out.size (fun k hk => by rw [hk]; exact HM.out.bg))
          replace HM := Aside0.mk hmm
          replace HQ := Aside0.mk (HQ.out.step (frI (a := a) (r := r) (s := s) hf) (.inl rfl))
          clear hmm hf hq
          go_wp2_with fail
          refine (same_calls (some ⟨q', 0, none⟩) (some ⟨q, 0, none⟩) n2 cq' n2 cq st.wait st.wait _ (row_C HQ2.out) HQ2.out.le.1 (row_C HQ.out.row) HQ.out.row.le.1 (by have h1 := HN2.out; have h2 := wait_length HI2.out.ok; omega)).mono ?_
          rintro e w8 ⟨rfl, hd⟩
          have hb : Below w7.heap.size w7 w8 := hd.below
          rw [show (decide (st.wait = st.wait)) = true by simp]
          replace HB := Aside0.mk (below_step HB.out hb)
          clear hb hd
          go_wp2_with fail
          go_ret
          exact ⟨rfl, HB.out⟩
        | false =>
          have hv : st.sees rr = 0 := by unfold St.sees; rw [if_neg (by rw [hin]; decide)]
          rw [hv]
          have HIN := Aside0.mk hin
          have HL := Aside0.mk (show st.leave rr = st by unfold St.leave; rw [if_neg (by rw [hin]; decide)])
          clear hin hv
          by_cases ho : st.isOut rr = true
          · obtain ⟨r1, r2, r3⟩ := isOut_iff.1 ho
            rw [HRD.out] at r2
            have HO := Aside0.mk ho
            have HE := Aside0.mk (show (st.enter rr).all = st.all from enter_all st rr)
            clear ho r3
            go_wp2_with fail
            refine (leave_calls HM.out HI2.out.ok hbig rr).mono ?_
            rintro e w5 ⟨a', ⟨V, x5, rfl, h5⟩, hmm, hf⟩
            rcases h5 with h5 | ⟨_, rfl, rfl, rfl, _⟩
            · exact absurd (h5.1.symm.trans HIN.out) (by decide)
            rw [HL.out] at hmm
            replace HB := Aside0.mk (hf.below HB.out HB.out.size (fun k hk => (HM.out.lt k hk).1))
            replace HQ := Aside0.mk (HQ.out.step hf (.inl rfl))
            replace HM := Aside0.mk hmm
            clear hmm hf
            go_wp2_with fail
            refine (enter_calls HM.out HI2.out.ok hbig rr).mono ?_
            rintro e w6 ⟨⟨v5, x5, rfl, h5⟩, hmm, hf⟩
            obtain ⟨hv5, rfl⟩ : v5 = st.cur ∧ x5 = 0 := by rcases h5 with h | h; exact ⟨h.2.1, h.2.2⟩; exact absurd (HO.out.symm.trans h.1) (by decide)
            have HV := Aside0.mk (show (st.enter rr).cur = v5 by rw [hv5]; unfold St.cur; rw [HE.out])
            have HW := Aside0.mk (show (st.enter rr).wait = st.wait by unfold St.wait; rw [HE.out])
            replace HB := Aside0.mk (hf.below HB.out HB.out.size (fun k hk => (HM.out.lt k hk).1))
            replace HQ := Aside0.mk (HQ.out.step hf (.inl rfl))
            replace HM := Aside0.mk hmm
            have HOK := Aside0.mk (HI2.out.ok.enter rr)
            have hb3 : (st.enter rr).all.length ≤ 90000 := by rw [HE.out]; exact hbig2
            clear hmm hf h5 hv5
            go_wp2_with fail
            refine (current_calls HM.out HOK.out (by omega)).mono ?_
            rintro e w7 ⟨rfl, hmm, hf⟩
            rw [HV.out]
            replace HB := Aside0.mk (hf.below HB.out HB.out.size (fun k hk => by rw [hk]; exact HM.out.bg))
            replace HM := Aside0.mk hmm
            replace HQ := Aside0.mk (HQ.out.step (frI (a := a') (r := r) (s := s) hf) (.inl rfl))
            clear hmm hf
            go_wp2_with fail
            refine (waiting_calls HM.out HOK.out hb3).mono ?_
            rintro e w8 ⟨q', cq', rfl, hq, hmm, hf⟩
            rw [HW.out, HN2.out] at hq
            rw [HW.out, HN2.out]
            have HQ2 := Aside0.mk hq
            replace HB := Aside0.mk (hf.below HB.out HB.out.size (fun k hk => by rw [hk]; exact HM.out.bg))
            replace HQ := Aside0.mk (HQ.out.step (frI (a := a') (r := r) (s := s) hf) (.inl rfl))
            clear hmm hf hq
            go_wp2_with fail
            refine (same_calls (some ⟨q', 0, none⟩) (some ⟨q, 0, none⟩) n2 cq' n2 cq st.wait st.wait _ (row_C HQ2.out) HQ2.out.le.1 (row_C HQ.out.row) HQ.out.row.le.1 (by have h1 := HN2.out; have h2 := wait_length HI2.out.ok; omega)).mono ?_
            rintro e w9 ⟨rfl, hd⟩
            have hb : Below w8.heap.size w8 w9 := hd.below
            rw [show (decide (st.wait = st.wait)) = true by simp]
            replace HB := Aside0.mk (below_step HB.out hb)
            clear hb hd
            go_wp2_with fail
            go_ret
            exact ⟨rfl, HB.out⟩
          · have ho2 : st.isOut rr = false := by simpa using ho
            have hr : rr < 1 ∨ (1 ≤ rr ∧ (N : Int) < rr) := by
              by_cases h1 : rr < 1
              · exact .inl h1
              · refine .inr ⟨by omega, ?_⟩
                rw [← HRD.out]
                by_cases h2 : rr ≤ (st.rd.length : Int)
                · exfalso
                  have h3 : ¬ st.isIn rr = true := by rw [HIN.out]; decide
                  rw [isIn_iff] at h3
                  rw [isOut_iff] at ho
                  by_cases h4 : st.rd.getD (rr - 1).toNat 0 = -1
                  · exact ho ⟨by omega, h2, h4⟩
                  · exact h3 ⟨by omega, h2, h4⟩
                · omega
            have HO := Aside0.mk ho2
            clear ho ho2
            have hr2 : rr < 1 ∨ (1 ≤ rr ∧ decide (rr ≤ (N : Int)) = false) := by
              rcases hr with h | ⟨h, h'⟩
              · exact .inl h
              · exact .inr ⟨h, decide_eq_false (by omega)⟩
            clear hr
            rcases hr2 with r1 | ⟨r1, r2⟩
            all_goals
              go_wp2_with fail
              refine (leave_calls HM.out HI2.out.ok hbig rr).mono ?_
              rintro e w5 ⟨a', ⟨V, x5, rfl, h5⟩, hmm, hf⟩
              rcases h5 with h5 | ⟨_, rfl, rfl, rfl, _⟩
              · exact absurd (h5.1.symm.trans HIN.out) (by decide)
              rw [HL.out] at hmm
              replace HB := Aside0.mk (hf.below HB.out HB.out.size (fun k hk => (HM.out.lt k hk).1))
              replace HM := Aside0.mk hmm
              clear hmm hf
              go_wp2_with fail
              refine (enter_calls HM.out HI2.out.ok hbig rr).mono ?_
              rintro e w6 ⟨⟨v5, x5, rfl, h5⟩, hmm, hf⟩
              obtain ⟨rfl, rfl⟩ : v5 = 0 ∧ x5 = 120 := by rcases h5 with h | h; exact absurd (h.1.symm.trans HO.out) (by decide); exact ⟨h.2.1, h.2.2⟩
              replace HB := Aside0.mk (hf.below HB.out HB.out.size (fun k hk => (HM.out.lt k hk).1))
              clear hmm hf h5
              go_wp2_with fail
              go_ret
              exact ⟨rfl, HB.out⟩
theorem refusesCalls (n0 : Int) (A2 : Option Addr) (c2 : Nat) (ls : List S32) (rr : Int) (hn : (Lit.int .i64 n0).wf = true) (hl2 : ls.length * 16 ≤ 140737488351232) (hf : ∀ x ∈ ls, (Lit.int .i64 x.f0).wf = true ∧ (Lit.int .i64 x.f1).wf = true) (hm : (Lit.int .i64 rr).wf = true)
    (w : World) (hr2 : Kd.C k32 w A2 ls.length ls) (hc2 : ls.length ≤ c2) :
    Calls Try.prog 7 #[.int .i64 n0, .slice A2 ls.length c2, .int .i64 rr] w fun e w' => e = .returned (.bool true) ∧ Below w.heap.size w w' :=
  refuses n0 A2 c2 ls rr w hr2 hc2 (by omega)
end Go.Proofs.Ytmepodmcmpndoaa.WEp
