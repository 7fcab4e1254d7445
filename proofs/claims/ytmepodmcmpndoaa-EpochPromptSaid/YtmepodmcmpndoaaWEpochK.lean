/-
  The law EpochKeeps: whatever is published, whoever enters and leaves: nothing is given back that a reader within has seen; all that was replaced is given back once, in its order; for any number of readers and any steps. Conditions: those of each theorem.
-/
import Derived.Test.YtmepodmcmpndoaaWEpoch5
set_option linter.unusedVariables false
set_option linter.unusedSimpArgs false
namespace Go.Proofs.Ytmepodmcmpndoaa.WEp
open Go.RowKit Go.Proofs.Ytmepodmcmpndoaa.PBase Go.Proofs.YtmepodmcmpndoaaW.PrintWords Go.Proofs.YtmepodmcmpndoaaW.PrintLast Go.Proofs.YtmepodmcmpndoaaW.PrintMore Go.Proofs.Ytmepodmcmpndoaa.Ep Go.Proofs.Ytmepodmcmpndoaa.EpM Go.MuLone
/-- Behind i steps, the versions numbered. -/
structure InvK (N i : Nat) (nx bk : Int) (st : St) : Prop where mk ::
  inv : Inv N i st
  idx : Idx st
  nx : nx = st.new + 1
  bk : bk = st.given
section
variable {N i : Nat} {nx bk : Int} {st : St}
theorem InvK.range (h : InvK N i nx bk st) : 0 ≤ bk ∧ bk < nx ∧ nx ≤ (i : Int) + 1 := by
  have h1 := h.inv.ok.given
  have h2 := h.inv.new
  have h3 := h.inv.ok.len
  have h4 := h.nx
  have h5 := h.bk
  unfold St.new at h2 h4
  omega
theorem InvK.publish (h : InvK N i nx bk st) : InvK N (i + 1) (nx + 1) (bk + (st.pubs nx).length) (st.publish nx) :=
  ⟨h.inv.publish nx, by have := h.idx.publish h.inv.ok; rwa [← h.nx] at this, by rw [publish_new h.inv.ok, h.nx], by rw [pubs_given h.inv.ok, h.bk]⟩
theorem InvK.enter (h : InvK N i nx bk st) (r : Int) : InvK N (i + 1) nx bk (st.enter r) :=
  ⟨h.inv.enter r, h.idx.enter h.inv.ok r, by rw [enter_new, h.nx], by rw [enter_given, h.bk]⟩
theorem InvK.leave (h : InvK N i nx bk st) (r : Int) : InvK N (i + 1) nx (bk + (st.leaves r).length) (st.leave r) :=
  ⟨h.inv.leave r, h.idx.leave h.inv.ok r, by rw [leave_new h.inv.ok, h.nx], by rw [leaves_given h.inv.ok, h.bk]⟩
theorem InvK.cur (h : InvK N i nx bk st) : st.cur = nx - 1 := by rw [h.idx.cur h.inv.ok, h.nx]; omega
theorem InvK.wait (h : InvK N i nx bk st) : nx - 1 - bk = (st.wait.length : Int) := by
  rw [wait_length h.inv.ok, h.nx, h.bk]; unfold St.new; omega
theorem InvK.made {N : Nat} (h1 : 1 ≤ N) (h2 : N ≤ 16) : InvK N 0 1 0 (St.made N 0) := ⟨Inv.made h1 h2 0, Idx.made, by simp [St.made, St.new], by simp [St.made]⟩
end
/-- What is given back, as it lies. -/
structure Told (w : World) (A : Option Addr) (n c : Nat) (bk : Int) (L : List Int) : Prop where mk ::
  len : L.length = n
  small : n ≤ 1000
  row : 0 < n → ∃ q, A = some ⟨q, 0, none⟩ ∧ Row w 0 q n c L
  get : ∀ k, k < n → L.getD k 0 = bk + k
theorem Told.none (w : World) (bk : Int) : Told w none 0 0 bk [] := ⟨rfl, by omega, fun h => absurd h (by omega), fun k h => absurd h (by omega)⟩
set_option maxHeartbeats 8000000 in
set_option maxRecDepth 100000 in
theorem keeps (n0 : Int) (A2 : Option Addr) (c2 : Nat) (ls : List S32) (w : World) (hr2 : Kd.C k32 w A2 ls.length ls) (hc2 : ls.length ≤ c2) (hl2 : ls.length ≤ 140737488351232) :
    Calls Try.prog 4 #[.int .i64 n0, .slice A2 ls.length c2] w fun e w' => e = .returned (.bool true) ∧ Below w.heap.size w w' := by
  have HR := Aside0.mk hr2
  obtain ⟨M, N, hM, hN, hM0, hM1, hN1, hN2⟩ := readers_of n0
  clear hr2 hc2
  go_enter Try.func4, Try.ntmps4
  go_wp2_with fail
  refine (awake_calls w).mono ?_
  rintro e w1 ⟨rfl, hb⟩
  have HB1 := Aside0.mk hb
  clear hb
  go_wp2_with fail
  refine (new_calls N 0 w1 hN1 hN2).mono ?_
  rintro e w2 ⟨g, a, r, s, rfl, hm, hb⟩
  have HM := Aside0.mk (hm.lower HB1.out.size)
  have HB := Aside0.mk (below_step HB1.out hb)
  have HI := Aside0.mk (InvK.made hN1 hN2)
  have HN := Aside0.mk hN
  clear hb hm HB1 hM hM0 hM1 hN
  go_wp2_with fail
  go_loopg [8, 9, 10] 200 (fun kq v8 v9 v10 w' => ∃ (i a : Nat) (nx bk : Int) (st : St), v8 = .int .i64 nx ∧ v9 = .int .i64 bk ∧ v10 = .int .i64 (i : Int) ∧ Aside0 (i + kq = 200) ∧ Aside0 (InvK N i nx bk st) ∧ Aside0 (Mem 56 w' w.heap.size g a r s 0 st) ∧ Aside0 (Below w.heap.size w w'))
  case atStart => exact ⟨0, a, 1, 0, _, rfl, rfl, rfl, ⟨rfl⟩, HI, HM, HB⟩
  case round =>
    clear HI HM HB
    obtain ⟨i, a, nx, bk, st, rfl, rfl, rfl, HK, HI, HM, HB⟩ := hrel
    have hk := HK.out
    by_cases hgo : i < ls.length ∧ i < 200
    · obtain ⟨h1, h2⟩ := hgo
      obtain ⟨ad0, e0, hx0, hx1⟩ := at_take HR.out h1
      subst e0
      obtain ⟨x, hx⟩ : ∃ x, ls[i].f0 = x := ⟨_, rfl⟩
      obtain ⟨y, hy⟩ : ∃ y, ls[i].f1 = y := ⟨_, rfl⟩
      rw [hx] at hx0
      rw [hy] at hx1
      replace hx0 := pw_cell_below HB.out hx0
      replace hx1 := pw_cell_below HB.out hx1
      obtain ⟨ji, hji⟩ : ∃ ji : Int, (i : Int) = ji := ⟨_, rfl⟩
      rw [show i * 2 = ji.toNat * 2 by omega] at hx0 hx1
      have q0 : (0 : Int) ≤ ji := by omega
      have q1 : ji < (ls.length : Int) := by omega
      have q2 : ji < 200 := by omega
      rw [hji]
      have HJ := Aside0.mk hji
      obtain ⟨q, hq, hq0, hq3⟩ := and3_of x
      obtain ⟨m, hm, hm0, hm15⟩ := and15_of y
      have hbig := HI.out.inv.big (by omega)
      have hgl := HB.out.size
      have HIB := Aside0.mk h2
      obtain ⟨b0, b1, b2⟩ := HI.out.range
      have b3 : nx ≤ 201 := by omega
      clear h1 h2 hji hx hy hk
      go_upto_block 2 with (fail)
      obtain ⟨wq, hwq⟩ : ∃ wq, wr.alloc (.cells #[.int .i64 x, .int .i64 y] 32) = wq := ⟨_, rfl⟩
      rw [hwq]
      have hbq : Below wr.heap.size wr wq := by rw [← hwq]; exact below_alloc (Below.refl _ _) _
      replace HM := Aside0.mk (HM.out.keepBelow hbq)
      replace HB := Aside0.mk (below_step HB.out hbq)
      have hgl := HB.out.size
      clear hwq hbq hx0 hx1 hq hm
      have HNX := Aside0.mk HI.out.nx
      go_cut [8, 13] (fun v8 v13 wc => ∃ (a' n c : Nat) (A : Option Addr) (nx' bk' : Int) (st' : St) (L : List Int), v8 = .int .i64 nx' ∧ v13 = .slice A n c ∧ Aside0 (InvK N (i + 1) nx' bk' st' ∧ bk' = bk + n ∧ nx' ≤ 202) ∧ Aside0 (Told wc A n c bk L) ∧ Aside0 (Mem 56 wc w.heap.size g a' r s 0 st') ∧ Aside0 (Below w.heap.size w wc))
      case first =>
        by_cases z0 : q = 0
        · subst z0
          go_wp2_with fail
          refine (publish_calls HM.out hgl HI.out.inv.ok hbig nx).mono ?_
          rintro e w3 ⟨a', q', cq, rfl, hqr, hmm, hle, hqa, hf⟩
          have HB3 := Aside0.mk (hf.below HB.out hgl (fun k hk => (HM.out.lt k hk).1))
          have HM3 := Aside0.mk hmm
          have HI3 := Aside0.mk HI.out.publish
          have HT3 := Aside0.mk (show Told w3 (some ⟨q', 0, none⟩) (st.pubs nx).length cq bk (st.pubs nx) from ⟨rfl, by have h1 := HI3.out.range; have h2 := hqr.lt; omega, fun _ => ⟨q', rfl, hqr.reb (Nat.zero_le _)⟩, fun k hk => by
            have h1 : k < (st.pubs (st.new + 1)).length := by rw [← HNX.out]; exact hk
            have h2 := pubs_get HI.out.inv.ok HI.out.idx h1
            rw [← HNX.out] at h2
            rw [h2, HI.out.bk]⟩)
          clear hqr hmm hle hqa hf
          go_wp2_with fail
          go_meet
          exact ⟨a', _, cq, _, nx + 1, _, _, _, by go_num, rfl, ⟨HI3.out, rfl, by omega⟩, HT3, HM3, HB3⟩
        · by_cases z1 : q = 1
          · subst z1
            go_wp2_with fail
            refine (enter_calls HM.out HI.out.inv.ok hbig _).mono ?_
            rintro e w3 ⟨⟨v3, x3, rfl, h3⟩, hmm, hf⟩
            have HB3 := Aside0.mk (hf.below HB.out hgl (fun k hk => (HM.out.lt k hk).1))
            have HM3 := Aside0.mk hmm
            clear hmm hf
            rcases h3 with ⟨_, rfl, rfl⟩ | ⟨_, rfl, rfl⟩
            · rw [HI.out.cur]
              go_wp2_with fail
              go_meet
              exact ⟨a, 0, 0, none, nx, bk, _, [], rfl, rfl, ⟨HI.out.enter _, by simp, by omega⟩, ⟨Told.none _ _⟩, HM3, HB3⟩
            · go_wp2_with fail
              go_meet
              exact ⟨a, 0, 0, none, nx, bk, _, [], rfl, rfl, ⟨HI.out.enter _, by simp, by omega⟩, ⟨Told.none _ _⟩, HM3, HB3⟩
          · go_wp2_with fail
            refine (leave_calls HM.out HI.out.inv.ok hbig _).mono ?_
            rintro e w3 ⟨a', ⟨V, x3, rfl, h3⟩, hmm, hf⟩
            have HB3 := Aside0.mk (hf.below HB.out hgl (fun k hk => (HM.out.lt k hk).1))
            have HM3 := Aside0.mk hmm
            have HI3 := Aside0.mk (HI.out.leave (1 + m))
            clear hmm hf
            rcases h3 with ⟨_, rfl, hle, q', cq, rfl, hqr, hqa⟩ | ⟨_, rfl, rfl, rfl, hnil⟩
            · have HT3 := Aside0.mk (show Told w3 (some ⟨q', 0, none⟩) (st.leaves (1 + m)).length cq bk (st.leaves (1 + m)) from ⟨rfl, by have h1 := HI3.out.range; omega, fun _ => ⟨q', rfl, hqr.reb (Nat.zero_le _)⟩, fun k hk => by
                rw [leaves_get HI.out.inv.ok HI.out.idx hk, HI.out.bk]⟩)
              clear hle hqr hqa
              go_wp2_with fail
              go_meet
              exact ⟨a', _, cq, _, nx, _, _, _, rfl, rfl, ⟨HI3.out, rfl, by omega⟩, HT3, HM3, HB3⟩
            · have HI4 := Aside0.mk (show InvK N (i + 1) nx bk (st.leave (1 + m)) from by have := HI3.out; rw [hnil] at this; simpa using this)
              clear hnil
              go_wp2_with fail
              go_meet
              exact ⟨a', 0, 0, none, nx, bk, _, [], rfl, rfl, ⟨HI4.out, by simp, by omega⟩, ⟨Told.none _ _⟩, HM3, HB3⟩
      case rest =>
        clear HM HB HNX
        obtain ⟨a', n, c, A, nx', bk', st', L, rfl, rfl, HI', HT, HM, HB⟩ := hcut
        have HKO := Aside0.mk (show i + gk = 200 from HK.out)
        clear HK hgl hbig b1 b2 b3 HI
        have hn1 := HT.out.small
        obtain ⟨c0, c1, c2⟩ := HI'.out.1.range
        have c3 := HI'.out.2.2
        have HBK := Aside0.mk HI'.out.2.1
        have HBB := Aside0.mk (show bk ≤ 300 ∧ -1 ≤ bk from by have := HBK.out; omega)
        have hbk1 : bk ≤ 300 := HBB.out.1
        have hbk2 : -1 ≤ bk := HBB.out.2
        have HC := Aside0.mk (And.intro c0 (And.intro c1 c3))
        clear c0 c1 c2 c3 b0
        go_wp2_with fail
        go_loop [9, 16] (fun v9 v16 => ∃ k : Nat, k ≤ n ∧ v16 = .int .i64 (k : Int) ∧ v9 = .int .i64 (bk + (k : Int))) (fun _ v16 => n - (intOf v16).toNat)
        case atStart => exact ⟨0, Nat.zero_le _, rfl, by go_num⟩
        case round =>
          obtain ⟨k, hkn, rfl, rfl⟩ := hrel
          by_cases hlt : k < n
          · obtain ⟨q', eA, hrow⟩ := HT.out.row (by omega)
            subst eA
            have hcell := (hrow.cell k hlt).1
            rw [HT.out.get k hlt] at hcell
            clear hrow
            go_wp2
            go_round
            case rel => exact ⟨k + 1, by omega, by go_num, by go_num⟩
            case measure => simp [intOf]; omega
          · obtain rfl : k = n := by omega
            rw [show bk + (k : Int) = bk' from HBK.out.symm]
            clear hlt hkn HT hn1 hbk1 hbk2
            have hgl := HB.out.size
            obtain ⟨c0, c1, c3⟩ := HC.out
            obtain ⟨n2, hn2⟩ : ∃ n2, st'.wait.length = n2 := ⟨_, rfl⟩
            have HW := Aside0.mk (show nx' - 1 - bk' = (n2 : Int) from by rw [← hn2]; exact HI'.out.1.wait)
            have hok := HI'.out.1.inv.ok
            have hb2 : st'.all.length ≤ 90000 := by have h1 := HI'.out.1.range; have h2 := HI'.out.1.wait; have h3 := wait_length hok; omega
            have HOK := Aside0.mk hok
            clear hok
            go_wp2_with fail
            refine (current_calls HM.out HOK.out (by omega)).mono ?_
            rintro e w3 ⟨rfl, hmm, hf⟩
            rw [HI'.out.1.cur]
            replace HB := Aside0.mk (hf.below HB.out hgl (fun k hk => by rw [hk]; exact HM.out.bg))
            replace HM := Aside0.mk hmm
            clear hmm hf
            go_wp2_with fail
            refine (waiting_calls HM.out HOK.out hb2).mono ?_
            rintro e w4 ⟨q, cq, rfl, hq, hmm, hf⟩
            rw [hn2]
            replace HB := Aside0.mk (hf.below HB.out HB.out.size (fun k hk => by rw [hk]; exact HM.out.bg))
            replace HM := Aside0.mk hmm
            clear hmm hf hq hn2
            have hw := HW.out
            go_wp2_with fail
            clear hw
            obtain ⟨wo, rfl⟩ : ∃ wo : World, wo = w4 := ⟨_, rfl⟩
            go_loopg [17] N (fun kq v17 w' => ∃ k : Nat, v17 = .int .i64 ((k : Int) + 1) ∧ Aside0 (k + kq = N) ∧ Aside0 (Mem 56 w' w.heap.size g a' r s 0 st') ∧ Aside0 (Below w.heap.size w w'))
            case atStart => exact ⟨0, rfl, ⟨by omega⟩, HM, HB⟩
            case round =>
              clear HM HB
              obtain ⟨k, rfl, HK, HM, HB⟩ := hrel
              by_cases hlt : k < N
              · have hlt2 : (k : Int) + 1 ≤ (N : Int) := by omega
                have hk16 : (k : Int) ≤ 16 := by omega
                have HLT := Aside0.mk hlt
                clear hlt
                go_wp2_with fail
                refine (seen_calls HM.out HOK.out _).mono ?_
                rintro e w5 ⟨rfl, hmm, hf⟩
                replace HB := Aside0.mk (hf.below HB.out HB.out.size (fun k hk => by rw [hk]; exact HM.out.bg))
                replace HM := Aside0.mk hmm
                clear hmm hf
                cases hin : st'.isIn ((k : Int) + 1) with
                | true =>
                  have hs := (HI'.out.1.idx.sees HOK.out hin).2
                  rw [← HI'.out.1.bk] at hs
                  have hs2 : ¬ st'.sees ((k : Int) + 1) < bk' := by omega
                  generalize st'.sees ((k : Int) + 1) = v at *
                  clear hin hs
                  go_wp2_with fail
                  go_roundg (gk - 1)
                  case measure => have := HK.out; have := HLT.out; omega
                  case rel => exact ⟨k + 1, by go_num, ⟨by have := HK.out; have := HLT.out; omega⟩, HM, HB⟩
                | false =>
                  generalize st'.sees ((k : Int) + 1) = v at *
                  clear hin
                  go_wp2_with fail
                  go_roundg (gk - 1)
                  case measure => have := HK.out; have := HLT.out; omega
                  case rel => exact ⟨k + 1, by go_num, ⟨by have := HK.out; have := HLT.out; omega⟩, HM, HB⟩
              · have hge : ¬ ((k : Int) + 1 ≤ (N : Int)) := by omega
                clear hlt HK
                go_wp2_with fail
                go_roundg (199 - i)
                case measure => have := HKO.out; have := HIB.out; omega
                case rel => exact ⟨i + 1, a', nx', bk', st', rfl, rfl, by have := HJ.out; go_num, ⟨by have := HIB.out; omega⟩, ⟨HI'.out.1⟩, HM, HB⟩
    · have hex : ¬ i < ls.length ∨ (i < ls.length ∧ ¬ i < 200) := by by_cases h : i < ls.length; exact .inr ⟨h, fun z => hgo ⟨h, z⟩⟩; exact .inl h
      clear hgo hk HI HK HM
      rcases hex with h1 | ⟨h1, h2⟩
      all_goals
        go_wp2
        go_ret
        exact ⟨rfl, HB.out⟩
theorem keepsCalls (n0 : Int) (A2 : Option Addr) (c2 : Nat) (ls : List S32) (hn : (Lit.int .i64 n0).wf = true) (hl2 : ls.length * 16 ≤ 140737488351232) (hf : ∀ x ∈ ls, (Lit.int .i64 x.f0).wf = true ∧ (Lit.int .i64 x.f1).wf = true)
    (w : World) (hr2 : Kd.C k32 w A2 ls.length ls) (hc2 : ls.length ≤ c2) :
    Calls Try.prog 4 #[.int .i64 n0, .slice A2 ls.length c2] w fun e w' => e = .returned (.bool true) ∧ Below w.heap.size w w' :=
  keeps n0 A2 c2 ls w hr2 hc2 (by omega)
end Go.Proofs.Ytmepodmcmpndoaa.WEp
