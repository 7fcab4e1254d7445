/-
  The statement IfaceSpeaks: a port speaks from an address that it has. Conditions: those of each theorem.
-/
import Derived.Test.YtefbcigccfkkgaaPureIfaceN
set_option linter.unusedVariables false
set_option linter.unusedSimpArgs false
namespace Go.Proofs.Ytefbcigccfkkgaa.WIf
open Go.RowKit Go.Maps Go.WideMaps Go.Proofs.Ytefbcigccfkkgaa.PBase Go.Proofs.YtefbcigccfkkgaaW.PrintWords Go.Proofs.YtefbcigccfkkgaaW.PrintLast Go.Proofs.YtefbcigccfkkgaaW.PrintMore Go.Proofs.Ytefbcigccfkkgaa.If
attribute [local go_sem] max2_int min2_int max_two min_two
attribute [local go_sem high] eqA25
theorem lo_at {w : World} {A : Option Addr} {L : List Lo} (h : k34.C w A L.length L) {i : Nat} {l : Lo} (hl : L[i]? = some l) : ∃ ad, w.cell? (ad.add (i * 4)) = some (.bool l.f0.f0) ∧ A = some ad := by
  have hi := (List.getElem?_eq_some_iff.1 hl).1
  obtain ⟨ad, e, x0, x1, x2, x3⟩ := at_T34 h (i : Int) (by omega) (by omega)
  have hrd : rd_T34 L (i : Int) = l := by
    unfold rd_T34
    rw [Int.toNat_natCast, List.getD_eq_getElem?_getD, hl, Option.getD_some]
  rw [hrd, Int.toNat_natCast] at x0
  exact ⟨ad, x0, e⟩
theorem any_take {L : List Lo} {six : Bool} {k : Nat} {l : Lo} (hl : L[k]? = some l) : anyB (L.take (k + 1)) six = (anyB (L.take k) six || l.f0.f0 == six) := by
  unfold anyB
  rw [List.take_add_one, hl, Option.toList_some, List.any_append]
  simp
set_option maxHeartbeats 4000000 in
set_option maxRecDepth 100000 in
theorem speaks (A : Option Addr) (c : Nat) (xs : List SI) (tt : Ad) (w : World) (hC : Kd.C k45 w A xs.length xs) (hl : xs.length ≤ 140737488355328) (hfit : ∀ x ∈ xs, Fit x) :
    Calls Try.prog 3 #[.slice A xs.length c, .agg (adA tt)] w fun e w' => e = .returned (.bool true) ∧ Below w.heap.size w w' := by
  have hu25 := Try.underlying25
  have HC := Aside0.mk hC
  have HB := Aside0.mk (Below.refl w.heap.size w)
  clear hC
  go_enter Try.func3, Try.ntmps3
  go_wp2_with (first | ((with_reducible refine gate_dst (N := 3) rfl ?_); refine sh_E 3 25 (adA tt) ?_; intro g3 hg w1 hbox hb; replace HB := sh_S HB hb; have BK3 := Aside0.mk hbox; clear hbox hb hg) | fail)
  refine Calls.mono (awake_calls w1) ?_
  rintro e w2 ⟨rfl, hb⟩
  replace HB := Aside0.mk (below_step HB.out hb)
  replace BK3 := Aside0.mk (blk_below BK3.out hb)
  clear hb
  go_wp2_with fail
  refine Calls.mono (made_calls w2 A c xs (Kd.C_below HC.out HB.out) hl hfit) ?_
  rintro e w3 ⟨sb, rfl, hh, hb⟩
  replace HB := Aside0.mk (below_step HB.out hb)
  replace BK3 := Aside0.mk (blk_below BK3.out hb)
  have HH := Aside0.mk hh
  have HI := Aside0.mk (inv_made xs 60)
  clear hb hh
  generalize madeAt xs 60 = st at HH HI
  generalize hB0 : w2.heap.size = B0 at HH
  clear hB0 hfit hl
  go_wp2_with fail
  go_loopg [7] 10 (fun kq v7 w' => ∃ (j : Nat), v7 = .int .i64 (j : Int) ∧ Aside0 (j + kq = 10) ∧ Aside0 (Has w' B0 (fun _ => False) sb st) ∧ Aside0 (Below w.heap.size w w') ∧ Aside0 (w'.heap[g3]? = some (.cells (adA tt) 25 (0, 0))))
  case atStart => exact ⟨0, rfl, ⟨by omega⟩, HH, HB, BK3⟩
  case round =>
    clear HH HB BK3
    obtain ⟨j, rfl, HJ, HH, HB, BK3⟩ := hrel
    obtain ⟨n, hn⟩ : ∃ n : Int, (j : Int) = n := ⟨_, rfl⟩
    rw [hn]
    by_cases h9 : n ≤ 9
    · have HG := Aside0.mk (spoke HI.out n tt)
      have hsrc := fun W (hW : Has W B0 (fun _ => False) sb st) => has_source hW HI.out n tt
      have hlocs := fun W (hW : Has W B0 (fun _ => False) sb st) => has_locals hW HI.out n
      generalize source st n tt = r at HG hsrc
      generalize locals st n = L at HG hlocs
      obtain ⟨ra, rb⟩ := r
      have HN := Aside0.mk hn
      have hw1 : wrap64 (n + 1) = ((j + 1 : Nat) : Int) := by unfold wrap64; omega
      have HW1 := Aside0.mk hw1
      obtain ⟨gk0, rfl⟩ : ∃ q, gk = q + 1 := ⟨gk - 1, by have := HJ.out; omega⟩
      obtain ⟨c0, c1, c2⟩ := MBlk.c3 BK3.out
      clear hn hw1
      go_wp2_with fail
      refine Calls.mono (hsrc _ HH.out) ?_
      rintro e w4 ⟨rfl, hb⟩
      replace HH := Aside0.mk (HH.out.below hb)
      replace HB := Aside0.mk (below_step HB.out hb)
      replace BK3 := Aside0.mk (blk_below BK3.out hb)
      clear hb c0 c1 c2
      go_upto_region 9 with (first | ((with_reducible refine gate_dst (N := 8) rfl ?_); refine sh_E 8 25 (adA zeroA) ?_; intro g8 hg V1 hbox hb; have HG8 := Aside0.mk hg; have BK8 := Aside0.mk hbox; have HBB := Aside0.mk hb; obtain ⟨d0, d1, d2⟩ := MBlk.c3 hbox; obtain ⟨f0, f1, f2⟩ := MBlk.f3 hbox; clear hbox hb hg) | fail)
      have hbk := put3 (b0 := .bool ra.f0) (b1 := .int .u64 ra.f1) (b2 := .int .u64 ra.f2) BK8.out
      have hbb : Below w4.heap.size w4 (((V1.setCell ⟨g8, 0, none⟩ (.bool ra.f0)).setCell ⟨g8, 1, none⟩ (.int .u64 ra.f1)).setCell ⟨g8, 2, none⟩ (.int .u64 ra.f2)) := below3 HBB.out (by have := HG8.out; omega)
      clear BK8 HBB HG8 f0 f1 f2 d0 d1 d2
      generalize (((V1.setCell ⟨g8, 0, none⟩ (.bool ra.f0)).setCell ⟨g8, 1, none⟩ (.int .u64 ra.f1)).setCell ⟨g8, 2, none⟩ (.int .u64 ra.f2)) = V2 at hbk hbb ⊢
      clear V1
      replace HH := Aside0.mk (HH.out.below hbb)
      replace HB := Aside0.mk (below_step HB.out hbb)
      replace BK3 := Aside0.mk (blk_below BK3.out hbb)
      have BK8 := Aside0.mk hbk
      clear hbb hbk
      go_wp2_with fail
      refine Calls.mono (hlocs _ HH.out) ?_
      rintro e V3 ⟨⟨A2, c2', rfl, hc2, _⟩, hb⟩
      replace HH := Aside0.mk (HH.out.below hb)
      replace HB := Aside0.mk (below_step HB.out hb)
      replace BK3 := Aside0.mk (blk_below BK3.out hb)
      replace BK8 := Aside0.mk (blk_below BK8.out hb)
      have HC2 := Aside0.mk hc2
      clear hb hc2
      have hlenI : (L.length : Int) ≤ 8 := by have := HG.out.few; omega
      go_upto_region 10 with (fail)
      go_wp2_with fail
      go_loopg [11, 12] L.length (fun kq v11 v12 w' => ∃ k : Nat, v11 = .bool (anyB (L.take k) tt.f0) ∧ v12 = .int .i64 (k : Int) ∧ Aside0 (k + kq = L.length) ∧ Aside0 (Has w' B0 (fun _ => False) sb st) ∧ Aside0 (Below w.heap.size w w') ∧ Aside0 (w'.heap[g3]? = some (.cells (adA tt) 25 (0, 0))) ∧ Aside0 (w'.heap[g8]? = some (.cells (adA ra) 25 (0, 0))) ∧ Aside0 (k34.C w' A2 L.length L))
      case atStart => exact ⟨0, rfl, rfl, ⟨by omega⟩, HH, HB, BK3, BK8, HC2⟩
      case round =>
        clear HH HB BK3 BK8 HC2
        obtain ⟨k, rfl, rfl, HK, HH, HB, BK3, BK8, HC2⟩ := hrel
        obtain ⟨c0, c1, c2⟩ := MBlk.c3 BK3.out
        obtain ⟨d0, d1, d2⟩ := MBlk.c3 BK8.out
        by_cases hk : k < L.length
        · obtain ⟨l, hl⟩ : ∃ l, L[k]? = some l := ⟨_, List.getElem?_eq_getElem hk⟩
          obtain ⟨ad, x0, e⟩ := lo_at HC2.out hl
          have HA := Aside0.mk (any_take (six := tt.f0) hl)
          obtain ⟨y, hy⟩ : ∃ y : Int, (k : Int) = y := ⟨_, rfl⟩
          have hyn : y.toNat = k := by omega
          rw [← hyn] at x0
          rw [hy]
          subst e
          have HY := Aside0.mk hy
          have b1 : decide (y < (L.length : Int)) = true := decide_eq_true (by omega)
          have p1 : (0 ≤ y) = True := eq_true (by omega)
          have q1 : (y < (L.length : Int)) = True := eq_true (by omega)
          have hyw : wrap64 (y + 1) = ((k + 1 : Nat) : Int) := by unfold wrap64; omega
          have HYW := Aside0.mk hyw
          obtain ⟨gk2, rfl⟩ : ∃ q, gk = q + 1 := ⟨gk - 1, by have := HK.out; omega⟩
          obtain ⟨t, ht⟩ : ∃ t, anyB (L.take k) tt.f0 = t := ⟨_, rfl⟩
          have HT := Aside0.mk ht
          rw [ht]
          clear hl hy hyn hyw hk ht
          cases t with
          | true =>
            go_wp2_with fail
            go_region
            go_wp2
            go_roundg gk2
            case measure => omega
            case rel => exact ⟨k + 1, by rw [HA.out, HT.out]; rfl, by first | rw [HYW.out] | exact congrArg _ (by have := HY.out; omega), ⟨by have := HK.out; omega⟩, ⟨HH.out.drewN 1⟩, ⟨below_drew1 HB.out⟩, BK3, BK8, HC2⟩
          | false =>
            go_wp2_with fail
            go_region
            go_wp2
            go_roundg gk2
            case measure => omega
            case rel => exact ⟨k + 1, by rw [HA.out, HT.out]; rfl, by first | rw [HYW.out] | exact congrArg _ (by have := HY.out; omega), ⟨by have := HK.out; omega⟩, ⟨HH.out.drewN 1⟩, ⟨below_drew1 HB.out⟩, BK3, BK8, HC2⟩
        · obtain ⟨y, hy⟩ : ∃ y : Int, (k : Int) = y := ⟨_, rfl⟩
          have b1 : decide (y < (L.length : Int)) = false := decide_eq_false (by omega)
          have htk : L.take k = L := List.take_of_length_le (by omega)
          rw [hy, htk]
          clear hy hk htk
          cases rb with
          | true =>
            obtain ⟨h1, h2, h3⟩ := HG.out.yes rfl
            simp only at h1 h2 h3
            rw [h3]
            have H2 := Aside0.mk h2
            have hcm := has_mine HH.out HI.out ra
            rw [h1] at hcm
            clear h1 h2 h3
            go_wp2_with fail
            refine Calls.mono hcm ?_
            rintro e V5 ⟨rfl, hb⟩
            replace HH := Aside0.mk (HH.out.below hb)
            replace HB := Aside0.mk (below_step HB.out hb)
            replace BK3 := Aside0.mk (blk_below BK3.out hb)
            replace BK8 := Aside0.mk (blk_below BK8.out hb)
            clear hcm hb c0 c1 c2 d0 d1 d2
            obtain ⟨c0, c1, c2⟩ := MBlk.c3 BK3.out
            obtain ⟨d0, d1, d2⟩ := MBlk.c3 BK8.out
            rw [H2.out] at d0
            go_wp2
            go_roundg gk0
            case measure => omega
            case rel => exact ⟨j + 1, by first | rw [HW1.out] | exact congrArg _ (by have := HN.out; omega), ⟨by have := HJ.out; omega⟩, HH, HB, BK3⟩
          | false =>
            have h1 := HG.out.no rfl
            have h2 := HG.out.none rfl
            simp only at h1 h2
            subst h1
            cases ha : anyB L tt.f0 with
            | false =>
              go_wp2
              go_roundg gk0
              case measure => omega
              case rel => exact ⟨j + 1, by first | rw [HW1.out] | exact congrArg _ (by have := HN.out; omega), ⟨by have := HJ.out; omega⟩, HH, HB, BK3⟩
            | true =>
              have hv := h2 ha
              have hv6 : tt.f0 = false := by
                cases e6 : tt.f0 with
                | false => rfl
                | true => unfold validB at hv; rw [e6] at hv; simp at hv
              have hv7 : (tt.f1 == 0) = false ∨ ((tt.f1 == 0) = true ∧ decide (tt.f2 < 4294967296) = false) := by
                unfold validB at hv
                rw [hv6] at hv
                simp only [Bool.false_or, Bool.and_eq_false_iff] at hv
                rcases hv with q | q
                · exact .inl q
                · cases e7 : (tt.f1 == 0) with
                  | false => exact .inl rfl
                  | true => exact .inr ⟨rfl, q⟩
              rw [hv6] at c0
              clear hv h2 ha hv6
              rcases hv7 with q | ⟨q, q'⟩
              · go_wp2
                go_roundg gk0
                case measure => omega
                case rel => exact ⟨j + 1, by first | rw [HW1.out] | exact congrArg _ (by have := HN.out; omega), ⟨by have := HJ.out; omega⟩, HH, HB, BK3⟩
              · go_wp2
                go_roundg gk0
                case measure => omega
                case rel => exact ⟨j + 1, by first | rw [HW1.out] | exact congrArg _ (by have := HN.out; omega), ⟨by have := HJ.out; omega⟩, HH, HB, BK3⟩
    · clear hn
      go_wp2
      go_ret
      exact ⟨rfl, HB.out⟩
theorem speaksCalls (A : Option Addr) (c : Nat) (ls : List SI) (a1_0 : Bool) (a1_1 a1_2 : Int) (hl : ls.length * 80 ≤ 140737488351232) (hf : ∀ x ∈ ls, GSI x) (g1 : (Lit.int .u64 a1_1).wf = true) (g2 : (Lit.int .u64 a1_2).wf = true) (w : World) (hr : Kd.C k45 w A ls.length ls) (hc : ls.length ≤ c) :
    Calls Try.prog 3 #[.slice A ls.length c, .agg #[.bool a1_0, .int .u64 a1_1, .int .u64 a1_2]] w fun e w' => e = .returned (.bool true) ∧ Below w.heap.size w w' :=
  speaks A c ls ⟨a1_0, a1_1, a1_2⟩ w hr (by omega) (fun x hx => fit_of (hf x hx))
end Go.Proofs.Ytefbcigccfkkgaa.WIf
