/-
  The law EpochPrompt: whatever waits, waits for somebody: a reader is in that has seen it, or one published earlier; for any number of readers and any steps. Conditions: those of each theorem.
-/
import Derived.Test.YtmepodmcmpndoaaWEpochK
set_option linter.unusedVariables false
set_option linter.unusedSimpArgs false
namespace Go.Proofs.Ytmepodmcmpndoaa.WEp
open Go.RowKit Go.Proofs.Ytmepodmcmpndoaa.PBase Go.Proofs.YtmepodmcmpndoaaW.PrintWords Go.Proofs.YtmepodmcmpndoaaW.PrintLast Go.Proofs.YtmepodmcmpndoaaW.PrintMore Go.Proofs.Ytmepodmcmpndoaa.Ep Go.Proofs.Ytmepodmcmpndoaa.EpM Go.MuLone
set_option maxHeartbeats 8000000 in
set_option maxRecDepth 100000 in
theorem prompts (n0 : Int) (A2 : Option Addr) (c2 : Nat) (ls : List S32) (w : World) (hr2 : Kd.C k32 w A2 ls.length ls) (hc2 : ls.length ≤ c2) (hl2 : ls.length ≤ 140737488351232) :
    Calls Try.prog 6 #[.int .i64 n0, .slice A2 ls.length c2] w fun e w' => e = .returned (.bool true) ∧ Below w.heap.size w w' := by
  have HR := Aside0.mk hr2
  obtain ⟨M, N, hM, hN, hM0, hM1, hN1, hN2⟩ := readers_of n0
  clear hr2 hc2
  go_enter Try.func6, Try.ntmps6
  go_wp2_with fail
  refine (awake_calls w).mono ?_
  rintro e w1 ⟨rfl, hb⟩
  have HB1 := Aside0.mk hb
  clear hb
  go_wp2_with fail
  refine (new_calls N 0 w1 hN1 hN2).mono ?_
  rintro e w2 ⟨g, a, r, s, rfl, hm, hb⟩
  have HM := Aside0.mk (hm.lower HB1.out.size)
  have HB := Aside0.mk (below_step HB1.out hb)
  have HI := Aside0.mk (InvK.made hN1 hN2)
  have HN := Aside0.mk hN
  clear hb hm HB1 hM hM0 hM1 hN
  go_wp2_with fail
  go_loopg [8, 9] 200 (fun kq v8 v9 w' => ∃ (i a : Nat) (nx bk : Int) (st : St), v8 = .int .i64 nx ∧ v9 = .int .i64 (i : Int) ∧ Aside0 (i + kq = 200) ∧ Aside0 (InvK N i nx bk st) ∧ Aside0 (Mem 56 w' w.heap.size g a r s 0 st) ∧ Aside0 (Below w.heap.size w w'))
  case atStart => exact ⟨0, a, 1, 0, _, rfl, rfl, ⟨rfl⟩, HI, HM, HB⟩
  case round =>
    clear HI HM HB
    obtain ⟨i, a, nx, bk, st, rfl, rfl, HK, HI, HM, HB⟩ := hrel
    have hk := HK.out
    by_cases hgo : i < ls.length ∧ i < 200
    · obtain ⟨h1, h2⟩ := hgo
      obtain ⟨ad0, e0, hx0, hx1⟩ := at_take HR.out h1
      subst e0
      obtain ⟨x, hx⟩ : ∃ x, ls[i].f0 = x := ⟨_, rfl⟩
      obtain ⟨y, hy⟩ : ∃ y, ls[i].f1 = y := ⟨_, rfl⟩
      rw [hx] at hx0
      rw [hy] at hx1
      replace hx0 := pw_cell_below HB.out hx0
      replace hx1 := pw_cell_below HB.out hx1
      obtain ⟨ji, hji⟩ : ∃ ji : Int, (i : Int) = ji := ⟨_, rfl⟩
      rw [show i * 2 = ji.toNat * 2 by omega] at hx0 hx1
      have q0 : (0 : Int) ≤ ji := by omega
      have q1 : ji < (ls.length : Int) := by omega
      have q2 : ji < 200 := by omega
      rw [hji]
      have HJ := Aside0.mk hji
      obtain ⟨q, hq, hq0, hq3⟩ := and3_of x
      obtain ⟨m, hm, hm0, hm15⟩ := and15_of y
      have hbig := HI.out.inv.big (by omega)
      have hgl := HB.out.size
      have HIB := Aside0.mk h2
      obtain ⟨b0, b1, b2⟩ := HI.out.range
      have b3 : nx ≤ 201 := by omega
      clear h1 h2 hji hx hy hk
      go_upto_block 2 with (fail)
      clear hx0 hq
      go_cut [8] (fun v8 wc => ∃ (a' : Nat) (nx' bk' : Int) (st' : St), v8 = .int .i64 nx' ∧ Aside0 (InvK N (i + 1) nx' bk' st' ∧ nx' ≤ 202) ∧ Aside0 (Mem 56 wc w.heap.size g a' r s 0 st') ∧ Aside0 (Below w.heap.size w wc))
      case first =>
        by_cases z0 : q = 0
        · subst z0
          go_wp2_with fail
          refine (publish_calls HM.out hgl HI.out.inv.ok hbig nx).mono ?_
          rintro e w3 ⟨a', q', cq, rfl, hqr, hmm, hle, hqa, hf⟩
          have HB3 := Aside0.mk (hf.below HB.out hgl (fun k hk => (HM.out.lt k hk).1))
          have HM3 := Aside0.mk hmm
          clear hqr hmm hle hqa hf hx1
          go_wp2_with fail
          go_meet
          exact ⟨a', nx + 1, _, _, by go_num, ⟨HI.out.publish, by omega⟩, HM3, HB3⟩
        · by_cases z1 : q = 1
          · subst z1
            go_wp2_with fail
            refine (enter_calls HM.out HI.out.inv.ok hbig _).mono ?_
            rintro e w3 ⟨⟨v3, x3, rfl, h3⟩, hmm, hf⟩
            have HB3 := Aside0.mk (hf.below HB.out hgl (fun k hk => (HM.out.lt k hk).1))
            have HM3 := Aside0.mk hmm
            clear hmm hf hx1 h3
            go_wp2_with fail
            go_meet
            exact ⟨a, nx, bk, _, rfl, ⟨HI.out.enter _, by omega⟩, HM3, HB3⟩
          · go_wp2_with fail
            refine (leave_calls HM.out HI.out.inv.ok hbig _).mono ?_
            rintro e w3 ⟨a', ⟨V, x3, rfl, h3⟩, hmm, hf⟩
            have HB3 := Aside0.mk (hf.below HB.out hgl (fun k hk => (HM.out.lt k hk).1))
            have HM3 := Aside0.mk hmm
            clear hmm hf hx1 h3
            go_wp2_with fail
            go_meet
            exact ⟨a', nx, _, _, rfl, ⟨HI.out.leave _, by omega⟩, HM3, HB3⟩
      case rest =>
        clear HM HB hx1 hm
        obtain ⟨a', nx', bk', st', rfl, HI', HM, HB⟩ := hcut
        have HKO := Aside0.mk (show i + gk = 200 from HK.out)
        clear HK hbig b0 b1 b2 b3 HI
        obtain ⟨c0, c1, c2⟩ := HI'.out.1.range
        have c3 := HI'.out.2
        have hok := HI'.out.1.inv.ok
        have hwl := wait_length hok
        have hw2 := HI'.out.1.wait
        have HOK := Aside0.mk hok
        obtain ⟨n2, hn2⟩ : ∃ n2, st'.wait.length = n2 := ⟨_, rfl⟩
        rw [hn2] at hwl hw2
        have hb2 : st'.all.length ≤ 90000 := by omega
        have HN2 := Aside0.mk hn2
        have HWL := Aside0.mk hwl
        have HBK := Aside0.mk c0
        clear hok hwl hw2 hn2 c2 c0
        go_wp2_with fail
        refine (waiting_calls HM.out HOK.out hb2).mono ?_
        rintro e w4 ⟨q, cq, rfl, hq, hmm, hf⟩
        have HQ := Aside0.mk (Kp.new HM.out hq (.inl rfl))
        rw [HN2.out] at HQ ⊢
        replace HB := Aside0.mk (hf.below HB.out HB.out.size (fun k hk => by rw [hk]; exact HM.out.bg))
        replace HM := Aside0.mk hmm
        clear hmm hf hq
        by_cases hz : n2 = 0
        · subst hz
          clear HWL
          go_wp2_with fail
          go_roundg (199 - i)
          case measure => have := HKO.out; have := HIB.out; omega
          case rel => exact ⟨i + 1, a', nx', bk', st', rfl, by have := HJ.out; go_num, ⟨by have := HIB.out; omega⟩, ⟨HI'.out.1⟩, HM, HB⟩
        · have hz1 : ((n2 : Int) == 0) = false := by simpa using hz
          have hz2 : (n2 == 0) = false := by simpa using hz
          have hz3 : decide (n2 = 0) = false := by simpa using hz
          have hz4 : decide ((n2 : Int) = 0) = false := by simpa using hz
          go_wp2_with fail
          clear hz1 hz2 hz3 hz4
          obtain ⟨wo, rfl⟩ : ∃ wo : World, wo = w4 := ⟨_, rfl⟩
          go_loopg [11, 12] N (fun kq v11 v12 w' => ∃ k : Nat, v11 = .int .i64 (oldest nx' (st'.rd.take k)) ∧ v12 = .int .i64 ((k : Int) + 1) ∧ Aside0 (k + kq = N) ∧ Aside0 (Kp w' g a' r s q n2 cq st'.wait) ∧ Aside0 (Mem 56 w' w.heap.size g a' r s 0 st') ∧ Aside0 (Below w.heap.size w w'))
          case atStart => exact ⟨0, rfl, rfl, ⟨by omega⟩, HQ, HM, HB⟩
          case round =>
            clear HM HB HQ
            obtain ⟨k, rfl, rfl, HK, HQ, HM, HB⟩ := hrel
            by_cases hlt : k < N
            · have hlt2 : (k : Int) + 1 ≤ (N : Int) := by omega
              have hk16 : (k : Int) ≤ 16 := by omega
              have HLT := Aside0.mk hlt
              have HST := Aside0.mk (oldest_step (m := nx') (rd := st'.rd) (k := k) (by rw [HI'.out.1.inv.rd]; exact hlt))
              have HAT := Aside0.mk (isIn_at (s := st') (k := k) (by rw [HI'.out.1.inv.rd]; exact hlt))
              clear hlt
              obtain ⟨o, ho⟩ : ∃ o, oldest nx' (st'.rd.take k) = o := ⟨_, rfl⟩
              rw [ho] at HST ⊢
              clear ho
              go_wp2_with fail
              refine (seen_calls HM.out HOK.out _).mono ?_
              rintro e w5 ⟨rfl, hmm, hf⟩
              replace HB := Aside0.mk (hf.below HB.out HB.out.size (fun k hk => by rw [hk]; exact HM.out.bg))
              replace HM := Aside0.mk hmm
              replace HQ := Aside0.mk (HQ.out.step (frI (a := a') (r := r) (s := s) hf) (.inl rfl))
              clear hmm hf
              cases hin : st'.isIn ((k : Int) + 1) with
              | true =>
                have hs := (HI'.out.1.idx.sees HOK.out hin).1
                rw [show ((k : Int) + 1 - 1).toNat = k by omega] at hs
                have hne : ¬ st'.rd.getD k 0 = -1 := by have h := HAT.out; rw [hin] at h; exact of_decide_eq_true h.symm
                have HS2 := Aside0.mk (show oldest nx' (st'.rd.take (k + 1)) = min o (st'.sees ((k : Int) + 1)) by rw [HST.out, if_neg hne, hs])
                generalize st'.sees ((k : Int) + 1) = v at *
                clear hin hs hne
                by_cases hvo : v < o
                · have HS3 := Aside0.mk (show oldest nx' (st'.rd.take (k + 1)) = v by rw [HS2.out]; omega)
                  go_wp2_with fail
                  go_roundg (gk - 1)
                  case measure => have := HK.out; have := HLT.out; omega
                  case rel => exact ⟨k + 1, by rw [HS3.out], by go_num, ⟨by have := HK.out; have := HLT.out; omega⟩, HQ, HM, HB⟩
                · have HS3 := Aside0.mk (show oldest nx' (st'.rd.take (k + 1)) = o by rw [HS2.out]; omega)
                  go_wp2_with fail
                  go_roundg (gk - 1)
                  case measure => have := HK.out; have := HLT.out; omega
                  case rel => exact ⟨k + 1, by rw [HS3.out], by go_num, ⟨by have := HK.out; have := HLT.out; omega⟩, HQ, HM, HB⟩
              | false =>
                have he : st'.rd.getD k 0 = -1 := by
                  have h := HAT.out; rw [hin] at h
                  have h2 := of_decide_eq_false h.symm
                  exact Decidable.of_not_not h2
                have HS2 := Aside0.mk (show oldest nx' (st'.rd.take (k + 1)) = o by rw [HST.out, if_pos he])
                generalize st'.sees ((k : Int) + 1) = v at *
                clear hin he
                go_wp2_with fail
                go_roundg (gk - 1)
                case measure => have := HK.out; have := HLT.out; omega
                case rel => exact ⟨k + 1, by rw [HS2.out], by go_num, ⟨by have := HK.out; have := HLT.out; omega⟩, HQ, HM, HB⟩
            · have hge : ¬ ((k : Int) + 1 ≤ (N : Int)) := by omega
              have hkN : k = N := by have := HK.out; omega
              have ho : oldest nx' (st'.rd.take k) = bk' := by
                rw [List.take_of_length_le (by rw [HI'.out.1.inv.rd]; omega), HI'.out.1.nx, HI'.out.1.bk]
                exact prompt HOK.out HI'.out.1.inv.tight (by have := HWL.out; omega)
              rw [ho]
              have hcell := (HQ.out.row.cell 0 (by omega)).1
              have hget : st'.wait.getD 0 0 = bk' := by
                have h2 := HI'.out.1.idx.all 0 (by have := HWL.out; omega)
                unfold St.wait
                rw [getD_take (by have := HWL.out; omega), h2, HI'.out.1.bk]; simp
              rw [hget] at hcell
              have hn0 : (0 : Int) < (n2 : Int) := by omega
              clear hlt HK ho hkN hget hz
              go_wp2_with fail
              go_roundg (199 - i)
              case measure => have := HKO.out; have := HIB.out; omega
              case rel => exact ⟨i + 1, a', nx', bk', st', rfl, by have := HJ.out; go_num, ⟨by have := HIB.out; omega⟩, ⟨HI'.out.1⟩, HM, HB⟩
    · have hex : ¬ i < ls.length ∨ (i < ls.length ∧ ¬ i < 200) := by by_cases h : i < ls.length; exact .inr ⟨h, fun z => hgo ⟨h, z⟩⟩; exact .inl h
      clear hgo hk HI HK HM
      rcases hex with h1 | ⟨h1, h2⟩
      all_goals
        go_wp2
        go_ret
        exact ⟨rfl, HB.out⟩
theorem promptsCalls (n0 : Int) (A2 : Option Addr) (c2 : Nat) (ls : List S32) (hn : (Lit.int .i64 n0).wf = true) (hl2 : ls.length * 16 ≤ 140737488351232) (hf : ∀ x ∈ ls, (Lit.int .i64 x.f0).wf = true ∧ (Lit.int .i64 x.f1).wf = true)
    (w : World) (hr2 : Kd.C k32 w A2 ls.length ls) (hc2 : ls.length ≤ c2) :
    Calls Try.prog 6 #[.int .i64 n0, .slice A2 ls.length c2] w fun e w' => e = .returned (.bool true) ∧ Below w.heap.size w w' :=
  prompts n0 A2 c2 ls w hr2 hc2 (by omega)
end Go.Proofs.Ytmepodmcmpndoaa.WEp
