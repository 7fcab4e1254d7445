/-
  The statement IfaceNear: who is near is near by a port that is up. Conditions: those of each theorem.
-/
import Derived.Test.YtefbcigccfkkgaaPureIfaceN
set_option linter.unusedVariables false
set_option linter.unusedSimpArgs false
namespace Go.Proofs.Ytefbcigccfkkgaa.WIf
open Go.RowKit Go.Maps Go.WideMaps Go.Proofs.Ytefbcigccfkkgaa.PBase Go.Proofs.YtefbcigccfkkgaaW.PrintWords Go.Proofs.YtefbcigccfkkgaaW.PrintLast Go.Proofs.YtefbcigccfkkgaaW.PrintMore Go.Proofs.Ytefbcigccfkkgaa.If
attribute [local go_sem] max2_int min2_int max_two min_two
theorem downs_is (st : St) (n : Int) (k : Nat) (h : (k : Int) + 1 = n) : downs st n (k + 1) = downs st n k := by
  show (if (k : Int) + 1 ≠ n then _ else _) = _
  rw [if_neg (fun z => z h)]
theorem downs_not (st : St) (n : Int) (k : Nat) (h : (k : Int) + 1 ≠ n) : downs st n (k + 1) = (turn (downs st n k) ((k : Int) + 1) false).1 := by
  show (if (k : Int) + 1 ≠ n then _ else _) = _
  rw [if_pos h]
set_option maxHeartbeats 4000000 in
set_option maxRecDepth 100000 in
theorem nears (A : Option Addr) (c : Nat) (xs : List SI) (a : Ad) (w : World) (hC : Kd.C k45 w A xs.length xs) (hl : xs.length ≤ 140737488355328) (hfit : ∀ x ∈ xs, Fit x) :
    Calls Try.prog 6 #[.slice A xs.length c, .agg (adA a)] w fun e w' => e = .returned (.bool true) ∧ Below w.heap.size w w' := by
  have hu25 := Try.underlying25
  have hu50 := Try.underlying50
  have HC := Aside0.mk hC
  have HB := Aside0.mk (Below.refl w.heap.size w)
  clear hC
  go_enter Try.func6, Try.ntmps6
  go_wp2_with (first | ((with_reducible refine gate_dst (N := 3) rfl ?_); refine sh_E 3 25 (adA a) ?_; intro g3 hg w1 hbox hb; have HG3 := sh_G HB hg; replace HB := sh_S HB hb; have BK3 := Aside0.mk hbox; clear hbox hb hg) | fail)
  refine Calls.mono (awake_calls w1) ?_
  rintro e w2 ⟨rfl, hb⟩
  replace HB := Aside0.mk (below_step HB.out hb)
  replace BK3 := Aside0.mk (blk_below BK3.out hb)
  clear hb
  go_wp2_with fail
  refine Calls.mono (made_calls w2 A c xs (Kd.C_below HC.out HB.out) hl hfit) ?_
  rintro e w3 ⟨sb, rfl, hh, hb⟩
  have hh2 : Has w3 w.heap.size (fun k => k = g3) sb (madeAt xs 60) := by
    obtain ⟨S, mb, v, ps, h1, h2⟩ := hh
    have hs := HB.out.size
    have hgl := blk_lt BK3.out
    exact ⟨S, mb, v, ps, h1, fun k hk => ⟨by have := (h2 k hk).1; omega, fun e => by have := (h2 k hk).1; omega⟩⟩
  replace HB := Aside0.mk (below_step HB.out hb)
  replace BK3 := Aside0.mk (blk_below BK3.out hb)
  have HH := Aside0.mk hh2
  have HI := Aside0.mk (inv_made xs 60)
  clear hb hh hh2
  generalize madeAt xs 60 = st at HH HI
  have HG := Aside0.mk (nigh HI.out a)
  have hX : ∀ V : World, V.heap[g3]? = some (.cells (adA a) 25 (0, 0)) → ∀ k, k = g3 → k < V.heap.size := fun V hV k hk => by rw [hk]; exact blk_lt hV
  obtain ⟨c0, c1, c2⟩ := MBlk.c3 BK3.out
  clear hfit hl
  go_wp2_with fail
  have hcn := has_near HH.out HI.out a
  obtain ⟨n, hn⟩ : ∃ n, near st a = n := ⟨_, rfl⟩
  rw [hn] at hcn HG
  have hge := HG.out.ge
  refine Calls.mono hcn ?_
  rintro e w4 ⟨rfl, hb⟩
  replace HH := Aside0.mk (HH.out.below hb)
  replace HB := Aside0.mk (below_step HB.out hb)
  replace BK3 := Aside0.mk (blk_below BK3.out hb)
  clear hb hcn hn c0 c1 c2
  go_wp2_with fail
  have hport := has_port HH.out HI.out n
  have hup : n > 0 → (portR st n).1.f3 = true := fun q => (HG.out.up q).1
  generalize (portR st n).2 = pb at hport
  generalize (portR st n).1 = P at hport hup
  have HUP := Aside0.mk hup
  refine Calls.mono hport ?_
  rintro e w5 ⟨rfl, hb⟩
  replace HH := Aside0.mk (HH.out.below hb)
  replace HB := Aside0.mk (below_step HB.out hb)
  replace BK3 := Aside0.mk (blk_below BK3.out hb)
  clear hb hport hup
  go_upto_region 7 with (first | ((with_reducible refine gate_dst (N := 9) rfl ?_); refine sh_E 9 50 #[.string (⟨#[]⟩ : ByteArray), .int .u64 0, .int .i64 0, .bool false] ?_; intro g9 hg V1 hbox hb; have HG9 := Aside0.mk hg; have BK9 := Aside0.mk hbox; have HBB := Aside0.mk hb; obtain ⟨d0, d1, d2, d3⟩ := MBlk.c4 hbox; obtain ⟨f0, f1, f2, f3⟩ := MBlk.f4 hbox; clear hbox hb hg) | fail)
  have hbk := put4 (b0 := .string P.f0) (b1 := .int .u64 P.f1) (b2 := .int .i64 P.f2) (b3 := .bool P.f3) BK9.out
  have hbb : Below w5.heap.size w5 ((((V1.setCell ⟨g9, 0, none⟩ (.string P.f0)).setCell ⟨g9, 1, none⟩ (.int .u64 P.f1)).setCell ⟨g9, 2, none⟩ (.int .i64 P.f2)).setCell ⟨g9, 3, none⟩ (.bool P.f3)) := below4 HBB.out (by have := HG9.out; omega)
  clear BK9 HBB HG9 f0 f1 f2 f3 d0 d1 d2 d3
  generalize ((((V1.setCell ⟨g9, 0, none⟩ (.string P.f0)).setCell ⟨g9, 1, none⟩ (.int .u64 P.f1)).setCell ⟨g9, 2, none⟩ (.int .i64 P.f2)).setCell ⟨g9, 3, none⟩ (.bool P.f3)) = V2 at hbk hbb ⊢
  clear V1
  replace HH := Aside0.mk (HH.out.below hbb)
  replace HB := Aside0.mk (below_step HB.out hbb)
  replace BK3 := Aside0.mk (blk_below BK3.out hbb)
  obtain ⟨d0, d1, d2, d3⟩ := MBlk.c4 hbk
  clear hbb hbk
  by_cases h0 : 0 < n
  · have hu := HUP.out h0
    rw [hu] at d3
    go_wp2_with fail
    have hlocs := has_locals HH.out HI.out n
    have hnz := (HG.out.up h0).2
    generalize locals st n = L at hlocs hnz
    refine Calls.mono hlocs ?_
    rintro e V3 ⟨⟨A2, c2', rfl, _⟩, hb⟩
    replace HH := Aside0.mk (HH.out.below hb)
    replace HB := Aside0.mk (below_step HB.out hb)
    replace BK3 := Aside0.mk (blk_below BK3.out hb)
    have hnz2 : ((L.length : Int) == 0) = false := by simpa using hnz
    obtain ⟨ln, hln⟩ : ∃ ln : Int, (L.length : Int) = ln := ⟨_, rfl⟩
    have hln2 : (ln == 0) = false := by rw [← hln]; exact hnz2
    clear hb hlocs hnz hnz2 d0 d1 d2 d3
    go_wp2_with fail
    go_loopg [11] 8 (fun kq v11 w' => ∃ k : Nat, v11 = .int .i64 ((k : Int) + 1) ∧ Aside0 (k + kq = 8) ∧ Aside0 (Has w' w.heap.size (fun k => k = g3) sb (downs st n k)) ∧ Aside0 (Below w.heap.size w w') ∧ Aside0 (w'.heap[g3]? = some (.cells (adA a) 25 (0, 0))))
    case atStart => exact ⟨0, rfl, ⟨by omega⟩, HH, HB, BK3⟩
    case round =>
      clear HH HB BK3
      obtain ⟨k, rfl, HK, HH, HB, BK3⟩ := hrel
      obtain ⟨t, ht⟩ : ∃ t : Int, (k : Int) + 1 = t := ⟨_, rfl⟩
      rw [ht]
      have HT := Aside0.mk ht
      by_cases h8 : t ≤ 8
      · obtain ⟨gk2, rfl⟩ : ∃ q, gk = q + 1 := ⟨gk - 1, by have := HK.out; omega⟩
        have hw1 : wrap64 (t + 1) = ((k + 1 : Nat) : Int) + 1 := by unfold wrap64; omega
        have HW1 := Aside0.mk hw1
        clear hw1
        by_cases he : t = n
        · have HE := Aside0.mk (downs_is st n k (ht.trans he))
          have heb : (t == n) = true := by simpa using he
          clear he ht
          go_wp2
          go_roundg gk2
          case measure => omega
          case rel => exact ⟨k + 1, by first | rw [HW1.out] | exact congrArg _ (by have := HT.out; omega), ⟨by have := HK.out; omega⟩, ⟨by rw [HE.out]; exact HH.out⟩, HB, BK3⟩
        · have HE := Aside0.mk (downs_not st n k (by rw [ht]; exact he))
          have heb : (t == n) = false := by simpa using he
          have hct := has_turn HH.out (inv_downs HI.out n k) HB.out.size (hX _ BK3.out) t false
          rw [show turn (downs st n k) t false = turn (downs st n k) ((k : Int) + 1) false by rw [ht]] at hct
          obtain ⟨q, hq⟩ : ∃ q, turn (downs st n k) ((k : Int) + 1) false = q := ⟨_, rfl⟩
          rw [hq] at hct HE
          clear he ht hq
          go_wp2_with fail
          refine Calls.mono hct ?_
          rintro e w6 ⟨rfl, hh, hb, hk⟩
          have HH2 := Aside0.mk hh
          replace HB := Aside0.mk (HB.out.trans hb)
          replace BK3 := Aside0.mk ((hk g3 rfl).trans BK3.out)
          clear hct hh hb hk HH
          go_wp2
          go_roundg gk2
          case measure => omega
          case rel => exact ⟨k + 1, by first | rw [HW1.out] | exact congrArg _ (by have := HT.out; omega), ⟨by have := HK.out; omega⟩, ⟨by rw [HE.out]; exact HH2.out⟩, HB, BK3⟩
      · obtain rfl : k = 8 := by have := HK.out; omega
        clear ht
        obtain ⟨c0, c1, c2⟩ := MBlk.c3 BK3.out
        go_wp2_with fail
        have hcn := has_near HH.out (inv_downs HI.out n 8) a
        rw [HG.out.still] at hcn
        refine Calls.mono hcn ?_
        rintro e w6 ⟨rfl, hb⟩
        replace HH := Aside0.mk (HH.out.below hb)
        replace HB := Aside0.mk (below_step HB.out hb)
        replace BK3 := Aside0.mk (blk_below BK3.out hb)
        clear hb hcn c0 c1 c2
        go_wp2_with fail
        have hct := has_turn HH.out (inv_downs HI.out n 8) HB.out.size (hX _ BK3.out) n false
        have hgone := HG.out.gone
        have hinv := inv_turn (inv_downs HI.out n 8) n false
        generalize turn (downs st n 8) n false = q at hct hgone hinv
        refine Calls.mono hct ?_
        rintro e w7 ⟨rfl, hh, hb, hk⟩
        have HH2 := Aside0.mk hh
        replace HB := Aside0.mk (HB.out.trans hb)
        replace BK3 := Aside0.mk ((hk g3 rfl).trans BK3.out)
        clear hct hh hb hk HH
        obtain ⟨c0, c1, c2⟩ := MBlk.c3 BK3.out
        go_wp2_with fail
        have hcn := has_near HH2.out hinv a
        rw [hgone] at hcn
        refine Calls.mono hcn ?_
        rintro e w8 ⟨rfl, hb⟩
        replace HB := Aside0.mk (below_step HB.out hb)
        clear hb hcn c0 c1 c2 hgone
        go_wp2
        go_ret
        exact ⟨rfl, HB.out⟩
  · obtain rfl : n = 0 := by omega
    clear d0 d1 d2 d3
    go_wp2_with fail
    go_loopg [11] 8 (fun kq v11 w' => ∃ k : Nat, v11 = .int .i64 ((k : Int) + 1) ∧ Aside0 (k + kq = 8) ∧ Aside0 (Has w' w.heap.size (fun k => k = g3) sb (downs st (0 : Int) k)) ∧ Aside0 (Below w.heap.size w w') ∧ Aside0 (w'.heap[g3]? = some (.cells (adA a) 25 (0, 0))))
    case atStart => exact ⟨0, rfl, ⟨by omega⟩, HH, HB, BK3⟩
    case round =>
      clear HH HB BK3
      obtain ⟨k, rfl, HK, HH, HB, BK3⟩ := hrel
      obtain ⟨t, ht⟩ : ∃ t : Int, (k : Int) + 1 = t := ⟨_, rfl⟩
      rw [ht]
      have HT := Aside0.mk ht
      by_cases h8 : t ≤ 8
      · obtain ⟨gk2, rfl⟩ : ∃ q, gk = q + 1 := ⟨gk - 1, by have := HK.out; omega⟩
        have hw1 : wrap64 (t + 1) = ((k + 1 : Nat) : Int) + 1 := by unfold wrap64; omega
        have HW1 := Aside0.mk hw1
        clear hw1
        by_cases he : t = (0 : Int)
        · have HE := Aside0.mk (downs_is st (0 : Int) k (ht.trans he))
          have heb : (t == (0 : Int)) = true := by simpa using he
          clear he ht
          go_wp2
          go_roundg gk2
          case measure => omega
          case rel => exact ⟨k + 1, by first | rw [HW1.out] | exact congrArg _ (by have := HT.out; omega), ⟨by have := HK.out; omega⟩, ⟨by rw [HE.out]; exact HH.out⟩, HB, BK3⟩
        · have HE := Aside0.mk (downs_not st (0 : Int) k (by rw [ht]; exact he))
          have heb : (t == (0 : Int)) = false := by simpa using he
          have hct := has_turn HH.out (inv_downs HI.out (0 : Int) k) HB.out.size (hX _ BK3.out) t false
          rw [show turn (downs st (0 : Int) k) t false = turn (downs st (0 : Int) k) ((k : Int) + 1) false by rw [ht]] at hct
          obtain ⟨q, hq⟩ : ∃ q, turn (downs st (0 : Int) k) ((k : Int) + 1) false = q := ⟨_, rfl⟩
          rw [hq] at hct HE
          clear he ht hq
          go_wp2_with fail
          refine Calls.mono hct ?_
          rintro e w6 ⟨rfl, hh, hb, hk⟩
          have HH2 := Aside0.mk hh
          replace HB := Aside0.mk (HB.out.trans hb)
          replace BK3 := Aside0.mk ((hk g3 rfl).trans BK3.out)
          clear hct hh hb hk HH
          go_wp2
          go_roundg gk2
          case measure => omega
          case rel => exact ⟨k + 1, by first | rw [HW1.out] | exact congrArg _ (by have := HT.out; omega), ⟨by have := HK.out; omega⟩, ⟨by rw [HE.out]; exact HH2.out⟩, HB, BK3⟩
      · obtain rfl : k = 8 := by have := HK.out; omega
        clear ht
        obtain ⟨c0, c1, c2⟩ := MBlk.c3 BK3.out
        go_wp2_with fail
        have hcn := has_near HH.out (inv_downs HI.out (0 : Int) 8) a
        rw [HG.out.still] at hcn
        refine Calls.mono hcn ?_
        rintro e w6 ⟨rfl, hb⟩
        replace HH := Aside0.mk (HH.out.below hb)
        replace HB := Aside0.mk (below_step HB.out hb)
        replace BK3 := Aside0.mk (blk_below BK3.out hb)
        clear hb hcn c0 c1 c2
        go_wp2_with fail
        have hct := has_turn HH.out (inv_downs HI.out (0 : Int) 8) HB.out.size (hX _ BK3.out) (0 : Int) false
        have hgone := HG.out.gone
        have hinv := inv_turn (inv_downs HI.out (0 : Int) 8) (0 : Int) false
        generalize turn (downs st (0 : Int) 8) (0 : Int) false = q at hct hgone hinv
        refine Calls.mono hct ?_
        rintro e w7 ⟨rfl, hh, hb, hk⟩
        have HH2 := Aside0.mk hh
        replace HB := Aside0.mk (HB.out.trans hb)
        replace BK3 := Aside0.mk ((hk g3 rfl).trans BK3.out)
        clear hct hh hb hk HH
        obtain ⟨c0, c1, c2⟩ := MBlk.c3 BK3.out
        go_wp2_with fail
        have hcn := has_near HH2.out hinv a
        rw [hgone] at hcn
        refine Calls.mono hcn ?_
        rintro e w8 ⟨rfl, hb⟩
        replace HB := Aside0.mk (below_step HB.out hb)
        clear hb hcn c0 c1 c2 hgone
        go_wp2
        go_ret
        exact ⟨rfl, HB.out⟩
theorem nearCalls (A : Option Addr) (c : Nat) (ls : List SI) (a1_0 : Bool) (a1_1 a1_2 : Int) (hl : ls.length * 80 ≤ 140737488351232) (hf : ∀ x ∈ ls, GSI x) (g1 : (Lit.int .u64 a1_1).wf = true) (g2 : (Lit.int .u64 a1_2).wf = true) (w : World) (hr : Kd.C k45 w A ls.length ls) (hc : ls.length ≤ c) :
    Calls Try.prog 6 #[.slice A ls.length c, .agg #[.bool a1_0, .int .u64 a1_1, .int .u64 a1_2]] w fun e w' => e = .returned (.bool true) ∧ Below w.heap.size w w' :=
  nears A c ls ⟨a1_0, a1_1, a1_2⟩ w hr (by omega) (fun x hx => fit_of (hf x hx))
end Go.Proofs.Ytefbcigccfkkgaa.WIf
