/-
  The law EpochEmpties: when all readers are out, nothing waits, and what is published next gives back what it replaces; for any number of readers and any steps. Conditions: those of each theorem.
-/
import Derived.Test.YtmepodmcmpndoaaWEpoch5
set_option linter.unusedVariables false
set_option linter.unusedSimpArgs false
namespace Go.Proofs.Ytmepodmcmpndoaa.WEp
open Go.RowKit Go.Proofs.Ytmepodmcmpndoaa.PBase Go.Proofs.YtmepodmcmpndoaaW.PrintWords Go.Proofs.YtmepodmcmpndoaaW.PrintLast Go.Proofs.YtmepodmcmpndoaaW.PrintMore Go.Proofs.Ytmepodmcmpndoaa.Ep Go.Proofs.Ytmepodmcmpndoaa.EpM Go.MuLone
set_option maxHeartbeats 2000000 in
set_option maxRecDepth 100000 in
theorem empties (n0 : Int) (A2 : Option Addr) (c2 : Nat) (ls : List S32) (w : World) (hr2 : Kd.C k32 w A2 ls.length ls) (hc2 : ls.length ≤ c2) (hl2 : ls.length ≤ 140737488351232) :
    Calls Try.prog 5 #[.int .i64 n0, .slice A2 ls.length c2] w fun e w' => e = .returned (.bool true) ∧ Below w.heap.size w w' := by
  have HR := Aside0.mk hr2
  obtain ⟨M, N, hM, hN, hM0, hM1, hN1, hN2⟩ := readers_of n0
  clear hr2 hc2
  go_enter Try.func5, Try.ntmps5
  go_wp2_with fail
  refine (awake_calls w).mono ?_
  rintro e w1 ⟨rfl, hb⟩
  have HB1 := Aside0.mk hb
  clear hb
  go_wp2_with fail
  refine (new_calls N 0 w1 hN1 hN2).mono ?_
  rintro e w2 ⟨g, a, r, s, rfl, hm, hb⟩
  have HM := Aside0.mk (hm.lower HB1.out.size)
  have HB := Aside0.mk (below_step HB1.out hb)
  have HI := Aside0.mk (Inv.made hN1 hN2 0)
  have HN := Aside0.mk hN
  clear hb hm HB1 hM hM0 hM1 hN
  go_wp2_with fail
  go_loopg [8] 200 (fun kq v8 w' => ∃ (i a : Nat) (st : St), v8 = .int .i64 (i : Int) ∧ Aside0 (i + kq = 200) ∧ Aside0 (Inv N i st) ∧ Aside0 (Mem 56 w' w.heap.size g a r s 0 st) ∧ Aside0 (Below w.heap.size w w'))
  case atStart => exact ⟨0, a, _, rfl, ⟨rfl⟩, HI, HM, HB⟩
  case round =>
    clear HI HM HB
    obtain ⟨i, a, st, rfl, HK, HI, HM, HB⟩ := hrel
    have hk := HK.out
    by_cases hgo : i < ls.length ∧ i < 200
    · obtain ⟨h1, h2⟩ := hgo
      obtain ⟨ad0, e0, hx0, hx1⟩ := at_take HR.out h1
      subst e0
      obtain ⟨x, hx⟩ : ∃ x, ls[i].f0 = x := ⟨_, rfl⟩
      obtain ⟨y, hy⟩ : ∃ y, ls[i].f1 = y := ⟨_, rfl⟩
      rw [hx] at hx0
      rw [hy] at hx1
      replace hx0 := pw_cell_below HB.out hx0
      replace hx1 := pw_cell_below HB.out hx1
      obtain ⟨ji, hji⟩ : ∃ ji : Int, (i : Int) = ji := ⟨_, rfl⟩
      rw [show i * 2 = ji.toNat * 2 by omega] at hx0 hx1
      have q0 : (0 : Int) ≤ ji := by omega
      have q1 : ji < (ls.length : Int) := by omega
      have q2 : ji < 200 := by omega
      rw [hji]
      have HJ := Aside0.mk hji
      obtain ⟨q, hq, hq0, hq3⟩ := and3_of x
      obtain ⟨m, hm, hm0, hm15⟩ := and15_of y
      have hbig := HI.out.big (by omega)
      have hgl := HB.out.size
      have HIB := Aside0.mk h2
      clear h1 h2 hji hx hy hk
      by_cases z0 : q = 0
      · subst z0
        go_wp2_with fail
        refine (publish_calls HM.out hgl HI.out.ok hbig _).mono ?_
        rintro e w3 ⟨a', q', cq, rfl, hqr, hmm, hle, hqa, hf⟩
        have HB3 := Aside0.mk (hf.below HB.out hgl (fun k hk => (HM.out.lt k hk).1))
        have HM3 := Aside0.mk hmm
        clear hqr hmm hle hqa hf hx0 hx1
        go_wp2_with fail
        go_roundg (gk - 1)
        case measure => have := HK.out; have := HIB.out; omega
        case rel => exact ⟨i + 1, a', _, by have := HJ.out; go_num, ⟨by have := HK.out; have := HIB.out; omega⟩, ⟨HI.out.publish _⟩, HM3, HB3⟩
      · by_cases z1 : q = 1
        · subst z1
          go_wp2_with fail
          refine (enter_calls HM.out HI.out.ok hbig _).mono ?_
          rintro e w3 ⟨⟨v3, x3, rfl, _⟩, hmm, hf⟩
          have HB3 := Aside0.mk (hf.below HB.out hgl (fun k hk => (HM.out.lt k hk).1))
          have HM3 := Aside0.mk hmm
          clear hmm hf hx0 hx1
          go_wp2_with fail
          go_roundg (gk - 1)
          case measure => have := HK.out; have := HIB.out; omega
          case rel => exact ⟨i + 1, a, _, by have := HJ.out; go_num, ⟨by have := HK.out; have := HIB.out; omega⟩, ⟨HI.out.enter _⟩, HM3, HB3⟩
        · go_wp2_with fail
          refine (leave_calls HM.out HI.out.ok hbig _).mono ?_
          rintro e w3 ⟨a', ⟨V, x3, rfl, _⟩, hmm, hf⟩
          have HB3 := Aside0.mk (hf.below HB.out hgl (fun k hk => (HM.out.lt k hk).1))
          have HM3 := Aside0.mk hmm
          clear hmm hf hx0 hx1
          go_wp2_with fail
          go_roundg (gk - 1)
          case measure => have := HK.out; have := HIB.out; omega
          case rel => exact ⟨i + 1, a', _, by have := HJ.out; go_num, ⟨by have := HK.out; have := HIB.out; omega⟩, ⟨HI.out.leave _⟩, HM3, HB3⟩
    · have HI2 := Aside0.mk (HI.out.more (j := 200) (by have := HK.out; omega))
      have hex : ¬ i < ls.length ∨ (i < ls.length ∧ ¬ i < 200) := by by_cases h : i < ls.length; exact .inr ⟨h, fun z => hgo ⟨h, z⟩⟩; exact .inl h
      clear hgo hk HI HK
      rcases hex with h1 | ⟨h1, h2⟩
      all_goals
        go_wp2_with fail
        have HA0 := Aside0.mk (show AllOut st 0 from fun i hi => absurd hi (Nat.not_lt_zero i))
        clear h1
        obtain ⟨wo, rfl⟩ : ∃ wo : World, wo = wr := ⟨_, rfl⟩
        go_loopg [9] N (fun kq v9 w' => ∃ (k a : Nat) (st : St), v9 = .int .i64 ((k : Int) + 1) ∧ Aside0 (k + kq = N) ∧ Aside0 (Inv N 200 st ∧ AllOut st k) ∧ Aside0 (Mem 56 w' w.heap.size g a r s 0 st) ∧ Aside0 (Below w.heap.size w w'))
        case atStart => exact ⟨0, a, st, rfl, ⟨by omega⟩, ⟨HI2.out, HA0.out⟩, HM, HB⟩
        case round =>
          clear HI2 HM HB HA0
          obtain ⟨k, a, st, rfl, HK, HI, HM, HB⟩ := hrel
          have hgl := HB.out.size
          by_cases hlt : k < N
          · have hlt2 : (k : Int) + 1 ≤ (N : Int) := by omega
            have hk16 : (k : Int) ≤ 16 := by omega
            have hbig := HI.out.1.big (by omega)
            have HLT := Aside0.mk hlt
            clear hlt
            go_wp2_with fail
            refine (leave_calls HM.out HI.out.1.ok hbig _).mono ?_
            rintro e w3 ⟨a', ⟨V, x3, rfl, _⟩, hmm, hf⟩
            have HB3 := Aside0.mk (hf.below HB.out hgl (fun k hk => (HM.out.lt k hk).1))
            have HM3 := Aside0.mk hmm
            have HI3 := Aside0.mk (show Inv N 200 (st.leave ((k : Int) + 1)) from by have := HI.out.1.leave ((k : Int) + 1); exact ⟨this.ok, this.tight, this.rd, by rw [leave_new HI.out.1.ok]; exact HI.out.1.new⟩)
            have HA3 := Aside0.mk (HI.out.2.leave (by rw [HI.out.1.rd]; exact HLT.out))
            clear hmm hf
            go_wp2_with fail
            refine (seen_calls HM3.out HI3.out.ok _).mono ?_
            rintro e w4 ⟨rfl, hmm, hf⟩
            rw [HA3.out.isIn]
            have HB4 := Aside0.mk (hf.below HB3.out HB3.out.size (fun k hk => by rw [hk]; exact HM3.out.bg))
            have HM4 := Aside0.mk hmm
            clear hmm hf
            go_wp2_with fail
            go_roundg (gk - 1)
            case measure => have := HK.out; have := HLT.out; omega
            case rel => exact ⟨k + 1, a', _, by go_num, ⟨by have := HK.out; have := HLT.out; omega⟩, ⟨HI3.out, HA3.out⟩, HM4, HB4⟩
          · have hge : ¬ ((k : Int) + 1 ≤ (N : Int)) := by omega
            have HA := Aside0.mk (show AllOut st st.rd.length from by rw [HI.out.1.rd]; intro i hi; exact HI.out.2 i (by omega))
            have hbig := HI.out.1.big (by omega)
            have hbig2 := HI.out.1.big2 (by omega)
            clear hlt HK
            go_wp2_with fail
            refine (current_calls HM.out HI.out.1.ok (by omega)).mono ?_
            rintro e w3 ⟨rfl, hmm, hf⟩
            replace HB := Aside0.mk (hf.below HB.out hgl (fun k hk => by rw [hk]; exact HM.out.bg))
            replace HM := Aside0.mk hmm
            clear hmm hf
            go_wp2_with fail
            refine (waiting_calls HM.out HI.out.1.ok hbig2).mono ?_
            rintro e w4 ⟨q, cq, rfl, hq, hmm, hf⟩
            rw [HA.out.wait HI.out.1.ok HI.out.1.tight]
            replace HB := Aside0.mk (hf.below HB.out HB.out.size (fun k hk => by rw [hk]; exact HM.out.bg))
            replace HM := Aside0.mk hmm
            clear hmm hf hq
            go_wp2_with fail
            obtain ⟨hp1, hp2⟩ := HA.out.pubs HI.out.1.ok HI.out.1.tight (-5)
            refine (publish_calls HM.out HB.out.size HI.out.1.ok hbig (-5)).mono ?_
            rintro e w5 ⟨a', q', cq', rfl, hqr, hmm, hle, hqa, hf⟩
            rw [hp1] at hqr ⊢
            replace HB := Aside0.mk (hf.below HB.out HB.out.size (fun k hk => (HM.out.lt k hk).1))
            replace HM := Aside0.mk hmm
            have HQ := Aside0.mk hqr
            have HC := Aside0.mk (show (st.publish (-5)).cur = -5 by unfold St.cur; rw [hp2]; rfl)
            have HO := Aside0.mk (HI.out.1.publish (-5))
            obtain ⟨v, hv⟩ : ∃ v, st.cur = v := ⟨_, rfl⟩
            rw [hv] at HQ ⊢
            clear hmm hle hqa hf hqr hp1 hp2 hv
            go_wp2_with fail
            refine (same_calls (some ⟨q', 0, none⟩) (some ⟨w5.heap.size, 0, none⟩) 1 cq' 1 1 [v] [v] (w5.alloc (.cells #[.int .i64 v] 3)) (row_C (row_alloc HQ.out _)) HQ.out.le.1 (row_C (B := 0) (row_lits w5 [v] _ rfl (Nat.zero_le _) (by simp))) (Nat.le_refl _) (by simp)).mono ?_
            rintro e w6 ⟨rfl, hd⟩
            have hb : Below w5.heap.size w5 w6 := below_step (below_alloc (Below.refl _ _) _) hd.below
            rw [show (decide (([v] : List Int) = [v])) = true by simp]
            replace HB := Aside0.mk (below_step HB.out hb)
            replace HM := Aside0.mk (HM.out.keepBelow hb)
            clear hb hd
            go_wp2_with fail
            refine (current_calls HM.out HO.out.ok (by have := HO.out.big2 (by omega); omega)).mono ?_
            rintro e w7 ⟨rfl, hmm, hf⟩
            rw [HC.out]
            replace HB := Aside0.mk (hf.below HB.out HB.out.size (fun k hk => by rw [hk]; exact HM.out.bg))
            clear hmm hf
            go_wp2_with fail
            go_ret
            exact ⟨rfl, HB.out⟩
theorem emptiesCalls (n0 : Int) (A2 : Option Addr) (c2 : Nat) (ls : List S32) (hn : (Lit.int .i64 n0).wf = true) (hl2 : ls.length * 16 ≤ 140737488351232) (hf : ∀ x ∈ ls, (Lit.int .i64 x.f0).wf = true ∧ (Lit.int .i64 x.f1).wf = true)
    (w : World) (hr2 : Kd.C k32 w A2 ls.length ls) (hc2 : ls.length ≤ c2) :
    Calls Try.prog 5 #[.int .i64 n0, .slice A2 ls.length c2] w fun e w' => e = .returned (.bool true) ∧ Below w.heap.size w w' :=
  empties n0 A2 c2 ls w hr2 hc2 (by omega)
end Go.Proofs.Ytmepodmcmpndoaa.WEp
