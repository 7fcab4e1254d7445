/-
  The calls of a set of ports in memory, eighth part: whence one speaks. Conditions: those of each theorem.
-/
import Derived.Test.YtefbcigccfkkgaaWIface7
set_option linter.unusedVariables false
set_option linter.unusedSimpArgs false
namespace Go.Proofs.Ytefbcigccfkkgaa.WIf
open Go.RowKit Go.Maps Go.WideMaps Go.Proofs.Ytefbcigccfkkgaa.PBase Go.Proofs.YtefbcigccfkkgaaW.PrintWords Go.Proofs.YtefbcigccfkkgaaW.PrintLast Go.Proofs.YtefbcigccfkkgaaW.PrintMore Go.Proofs.Ytefbcigccfkkgaa.If
attribute [local go_sem] max2_int min2_int max_two min_two
abbrev adA (a : Ad) : Array Value := #[.bool a.f0, .int .u64 a.f1, .int .u64 a.f2]
theorem put3 {w : World} {g t : Nat} {a0 a1 a2 b0 b1 b2 : Value} (h : w.heap[g]? = some (.cells #[a0, a1, a2] t (0, 0))) : (((w.setCell ⟨g, 0, none⟩ b0).setCell ⟨g, 1, none⟩ b1).setCell ⟨g, 2, none⟩ b2).heap[g]? = some (.cells #[b0, b1, b2] t (0, 0)) :=
  blk_put (blk_put (blk_put h 0 b0 rfl) 1 b1 rfl) 2 b2 rfl
theorem below3 {w0 w : World} {g : Nat} {b0 b1 b2 : Value} (h : Below w0.heap.size w0 w) (hg : w0.heap.size ≤ g) : Below w0.heap.size w0 (((w.setCell ⟨g, 0, none⟩ b0).setCell ⟨g, 1, none⟩ b1).setCell ⟨g, 2, none⟩ b2) :=
  below_set (below_set (below_set h hg) hg) hg
/-- What Source holds: the address asked for, and the place of its answer. -/
structure Ss (w0 w : World) (g5 g6 : Nat) (a : Ad) : Prop where mk ::
  (b5 : w.heap[g5]? = some (.cells (adA a) 25 (0, 0)))
  (b6 : w.heap[g6]? = some (.cells (adA zeroA) 25 (0, 0)))
  (ge : w0.heap.size ≤ g5 ∧ w0.heap.size ≤ g6)
  (bel : Below w0.heap.size w0 w)
theorem Ss.below {w0 w w1 : World} {g5 g6 : Nat} {a : Ad} (h : Ss w0 w g5 g6 a) (hb : Below w.heap.size w w1) : Ss w0 w1 g5 g6 a :=
  ⟨blk_below h.b5 hb, blk_below h.b6 hb, h.ge, below_step h.bel hb⟩
theorem fam_none {ls : List Lo} {six : Bool} (h : ∀ (j : Nat) l, j < ls.length → ls[j]? = some l → l.f0.f0 ≠ six) : famN ls six = none := by
  unfold famN
  rw [List.find?_eq_none]
  intro l hl
  obtain ⟨j, hj⟩ := List.mem_iff_getElem?.1 hl
  simpa using h j l (List.getElem?_eq_some_iff.1 hj).1 hj
theorem fam_some {ls : List Lo} {six : Bool} {j : Nat} {l : Lo} (hl : ls[j]? = some l) (h6 : l.f0.f0 = six) (h : ∀ (i : Nat) m, i < j → ls[i]? = some m → m.f0.f0 ≠ six) : famN ls six = some l := by
  unfold famN
  rw [List.find?_eq_some_iff_getElem]
  obtain ⟨hj, e⟩ := List.getElem?_eq_some_iff.1 hl
  refine ⟨by simpa using h6, j, hj, e, fun i hi => ?_⟩
  have := h i ls[i] hi (List.getElem?_eq_getElem (by omega))
  simpa using this
def srcR (b : Lo) (f : Option Lo) : Ad × Bool := if b.f1 > 0 then (b.f0, true) else match f with | some l => (l.f0, true) | none => (zeroA, false)
theorem srcR_best {b : Lo} {f : Option Lo} (h : 0 < b.f1) : (b.f0, true) = srcR b f := by unfold srcR; rw [if_pos h]
theorem srcR_some {b : Lo} {l : Lo} (h : b.f1 ≤ 0) : (l.f0, true) = srcR b (some l) := by unfold srcR; rw [if_neg (by omega)]
theorem srcR_none {b : Lo} (h : b.f1 ≤ 0) : (zeroA, false) = srcR b none := by unfold srcR; rw [if_neg (by omega)]
section
variable {w : World} {S : Nat → Prop} {sb mb : Nat} {v : Value} {xs : List PS} {st : St}
set_option maxHeartbeats 1000000 in
set_option maxRecDepth 100000 in
theorem source_none (h : Mem w S sb mb v xs st) (h8 : st.length ≤ 8) (n : Int) (a : Ad) (hn : at? st n = none) :
    Calls Try.prog 10 #[.pointer (some ⟨sb, 0, none⟩), .int .i64 n, .agg (adA a)] w fun e w' => e = .returned (.tuple #[.agg (adA zeroA), .bool false]) ∧ Below w.heap.size w w' := by
  have hu25 := Try.underlying25
  have HB := Aside0.mk (Below.refl w.heap.size w)
  go_enter Try.func10, Try.ntmps10
  go_wp2_with (first | ((with_reducible refine gate_dst (N := 5) rfl ?_); refine sh_E 5 25 (adA a) ?_; intro g5 hg w1 hbox hb; replace HB := sh_S HB hb; have HM := Aside0.mk (h.below hb); clear hbox hb hg) | ((with_reducible refine gate_dst (N := 6) rfl ?_); refine sh_E 6 25 (adA zeroA) ?_; intro g6 hg w2 hbox hb; have GE6 := sh_G HB hg; replace HB := sh_S HB hb; replace HM := Aside0.mk (HM.out.below hb); have BK6 := Aside0.mk hbox; obtain ⟨c0, c1, c2⟩ := MBlk.c3 hbox; obtain ⟨f0, f1, f2⟩ := MBlk.f3 hbox; clear hbox hb hg) | fail)
  refine Calls.mono (of_none HM.out h8 n hn) ?_
  rintro e w' ⟨rfl, rfl⟩
  go_wp2
  refine bodyPost_ret (results_ct rfl _ _ g6 25 (adA zeroA) (0, 0) _ rfl (put3 BK6.out) hu25 rfl (by kernel_rfl)) rfl ?_
  exact ⟨rfl, below3 HB.out GE6.out⟩
set_option maxHeartbeats 1000000 in
set_option maxRecDepth 100000 in
theorem source_not (h : Mem w S sb mb v xs st) (h8 : st.length ≤ 8) (n : Int) (a : Ad) {i : Nat} (hn : at? st n = some i) (hva : validB a = false) :
    Calls Try.prog 10 #[.pointer (some ⟨sb, 0, none⟩), .int .i64 n, .agg (adA a)] w fun e w' => e = .returned (.tuple #[.agg (adA zeroA), .bool false]) ∧ Below w.heap.size w w' := by
  have hu25 := Try.underlying25
  have HB := Aside0.mk (Below.refl w.heap.size w)
  obtain ⟨p, x, pb, c, hp, hx, hv, hS⟩ := at_get h hn
  have hval := fun W => addr_Valid.calls a.f0 a.f1 a.f2 false W (by rw [valid_some]; exact congrArg some hva)
  go_enter Try.func10, Try.ntmps10
  go_wp2_with (first | ((with_reducible refine gate_dst (N := 5) rfl ?_); refine sh_E 5 25 (adA a) ?_; intro g5 hg w1 hbox hb; replace HB := sh_S HB hb; have HM := Aside0.mk (h.below hb); have BK5 := Aside0.mk hbox; obtain ⟨d0, d1, d2⟩ := MBlk.c3 hbox; clear hbox hb hg) | ((with_reducible refine gate_dst (N := 6) rfl ?_); refine sh_E 6 25 (adA zeroA) ?_; intro g6 hg w2 hbox hb; have GE6 := sh_G HB hg; replace HB := sh_S HB hb; replace HM := Aside0.mk (HM.out.below hb); have BK6 := Aside0.mk hbox; replace d0 := pw_cell_below hb d0; replace d1 := pw_cell_below hb d1; replace d2 := pw_cell_below hb d2; clear hbox hb hg) | fail)
  refine Calls.mono (of_some HM.out h8 n hn hv) ?_
  rintro e w' ⟨rfl, rfl⟩
  go_wp2_with fail
  refine Calls.mono (hval _) ?_
  rintro e w3 ⟨rfl, hb⟩
  replace HB := sh_S HB hb
  replace BK6 := Aside0.mk (blk_below BK6.out hb)
  obtain ⟨c0, c1, c2⟩ := MBlk.c3 BK6.out
  obtain ⟨f0, f1, f2⟩ := MBlk.f3 BK6.out
  clear hb d0 d1 d2
  go_wp2
  refine bodyPost_ret (results_ct rfl _ _ g6 25 (adA zeroA) (0, 0) _ rfl (put3 BK6.out) hu25 rfl (by kernel_rfl)) rfl ?_
  exact ⟨rfl, below3 HB.out GE6.out⟩
set_option maxHeartbeats 4000000 in
set_option maxRecDepth 100000 in
theorem source_done (h : Mem w S sb mb v xs st) (h8 : st.length ≤ 8) (n : Int) (a : Ad) {i : Nat} (hn : at? st n = some i) (hva : validB a = true) {p : Pt} (hp : st[i]? = some p) (hp8 : p.ls.length ≤ 8) :
    Calls Try.prog 10 #[.pointer (some ⟨sb, 0, none⟩), .int .i64 n, .agg (adA a)] w fun e w' => (∃ r : Ad × Bool, e = .returned (.tuple #[.agg (adA r.1), .bool r.2]) ∧ r = srcR (best p.ls a) (famN p.ls a.f0)) ∧ Below w.heap.size w w' := by
  have hu25 := Try.underlying25
  have hu34 := Try.underlying34
  have HB := Aside0.mk (Below.refl w.heap.size w)
  obtain ⟨p', x, pb, c, hp', hx, hv, hS⟩ := at_get h hn
  obtain rfl : p = p' := Option.some.inj (hp.symm.trans hp')
  have hval := fun W => addr_Valid.calls a.f0 a.f1 a.f2 true W (by rw [valid_some]; exact congrArg some hva)
  have hcl := fun W (hW : Mem W S sb mb v xs st) => ((hv ▸ hW.row).cell hx (j := 4) rfl).1
  have hbc := fun W (hW : Mem W S sb mb v xs st) => best_calls W pb i (sv x.l) p.ls (hW.like i p x hp hx).2 hp8 (hcl W hW) a
  obtain ⟨b, hbb⟩ : ∃ b, best p.ls a = b := ⟨_, rfl⟩
  rw [hbb] at hbc ⊢
  clear hbb
  go_enter Try.func10, Try.ntmps10
  go_wp2_with (first | ((with_reducible refine gate_dst (N := 5) rfl ?_); refine sh_E 5 25 (adA a) ?_; intro g5 hg w1 hbox hb; have GE5 := sh_G HB hg; replace HB := sh_S HB hb; have HM := Aside0.mk (h.below hb); have BK5 := Aside0.mk hbox; clear hbox hb hg) | ((with_reducible refine gate_dst (N := 6) rfl ?_); refine sh_E 6 25 (adA zeroA) ?_; intro g6 hg w2 hbox hb; have GE6 := sh_G HB hg; replace HB := sh_S HB hb; replace HM := Aside0.mk (HM.out.below hb); have BK6 := Aside0.mk hbox; replace BK5 := sh_L BK5 hb; clear hbox hb hg) | fail)
  have HSS := Aside0.mk (show Ss w w2 g5 g6 a from ⟨BK5.out, BK6.out, ⟨GE5.out, GE6.out⟩, HB.out⟩)
  clear BK5 BK6 GE5 GE6 HB
  refine Calls.mono (of_some HM.out h8 n hn hv) ?_
  rintro e w' ⟨rfl, rfl⟩
  obtain ⟨d0, d1, d2⟩ := MBlk.c3 HSS.out.b5
  go_wp2_with fail
  refine Calls.mono (hval _) ?_
  rintro e w3 ⟨rfl, hb⟩
  replace HSS := Aside0.mk (HSS.out.below hb)
  replace HM := Aside0.mk (HM.out.below hb)
  clear hb d0 d1 d2
  obtain ⟨d0, d1, d2⟩ := MBlk.c3 HSS.out.b5
  go_wp2_with fail
  refine Calls.mono (hbc _ HM.out) ?_
  rintro e w4 ⟨rfl, hb⟩
  replace HSS := Aside0.mk (HSS.out.below hb)
  replace HM := Aside0.mk (HM.out.below hb)
  clear hb d0 d1 d2
  go_upto_region 5 with (first | ((with_reducible refine gate_dst (N := 9) rfl ?_); refine sh_E 9 34 (lcA zeroL) ?_; intro g9 hg W1 hbox hb; have HG9 := Aside0.mk hg; have BK9 := Aside0.mk hbox; have HBB := Aside0.mk hb; obtain ⟨c0, c1, c2, c3⟩ := MBlk.c4 hbox; obtain ⟨f0, f1, f2, f3⟩ := MBlk.f4 hbox; clear hbox hb hg) | fail)
  have hk9 := put4 (b0 := .bool b.f0.f0) (b1 := .int .u64 b.f0.f1) (b2 := .int .u64 b.f0.f2) (b3 := .int .i64 b.f1) BK9.out
  have hb9 : Below w4.heap.size w4 ((((W1.setCell ⟨g9, 0, none⟩ (.bool b.f0.f0)).setCell ⟨g9, 1, none⟩ (.int .u64 b.f0.f1)).setCell ⟨g9, 2, none⟩ (.int .u64 b.f0.f2)).setCell ⟨g9, 3, none⟩ (.int .i64 b.f1)) := below4 HBB.out (by have := HG9.out; omega)
  clear BK9 HBB HG9 c0 c1 c2 c3 f0 f1 f2 f3
  generalize ((((W1.setCell ⟨g9, 0, none⟩ (.bool b.f0.f0)).setCell ⟨g9, 1, none⟩ (.int .u64 b.f0.f1)).setCell ⟨g9, 2, none⟩ (.int .u64 b.f0.f2)).setCell ⟨g9, 3, none⟩ (.int .i64 b.f1)) = W2 at hk9 hb9 ⊢
  clear W1
  replace HSS := Aside0.mk (HSS.out.below hb9)
  replace HM := Aside0.mk (HM.out.below hb9)
  have hc := hcl _ HM.out
  obtain ⟨_, hrl⟩ := HM.out.like i p x hp hx
  obtain ⟨A, c', ex, hC⟩ := RL.reads hrl
  rw [ex] at hc
  obtain ⟨c0, c1, c2, c3⟩ := MBlk.c4 hk9
  obtain ⟨z0, z1, z2⟩ := MBlk.c3 HSS.out.b6
  obtain ⟨f0, f1, f2⟩ := MBlk.f3 HSS.out.b6
  clear hb9 hk9 hrl ex hval hbc hcl
  by_cases t1 : 0 < b.f1
  · clear hC hc
    go_wp2
    refine bodyPost_ret (results_ct rfl _ _ g6 25 (adA b.f0) (0, 0) _ rfl (put3 HSS.out.b6) hu25 rfl (by kernel_rfl)) rfl ?_
    exact ⟨⟨(b.f0, true), rfl, srcR_best t1⟩, below3 HSS.out.bel HSS.out.ge.2⟩
  · have HC := Aside0.mk hC
    have HT := Aside0.mk t1
    clear hC c0 c1 c2 c3 z0 z1 z2 f0 f1 f2
    go_wp2_with fail
    go_loopg [38] p.ls.length (fun kq v38 w' => ∃ (j : Nat), v38 = .int .i64 (j : Int) ∧ Aside0 (j + kq = p.ls.length ∧ ∀ (i : Nat) m, i < j → p.ls[i]? = some m → m.f0.f0 ≠ a.f0) ∧ Aside0 (Ss w w' g5 g6 a) ∧ Aside0 (Below W2.heap.size W2 w'))
    case atStart => exact ⟨0, rfl, ⟨by omega, fun i m hi => by omega⟩, HSS, ⟨Below.refl _ _⟩⟩
    case round =>
      clear HSS
      obtain ⟨j, rfl, HJ, HSS, HC2⟩ := hrel
      obtain ⟨z0, z1, z2⟩ := MBlk.c3 HSS.out.b6
      obtain ⟨f0, f1, f2⟩ := MBlk.f3 HSS.out.b6
      obtain ⟨d0, d1, d2⟩ := MBlk.c3 HSS.out.b5
      by_cases hj : j < p.ls.length
      · obtain ⟨ad, e, x0, x1, x2, x3⟩ := at_T34 (Kd.C_below HC.out HC2.out) (j : Int) (by omega) (by omega)
        subst e
        have hrd : rd_T34 p.ls (j : Int) = p.ls[j] := by
          unfold rd_T34
          rw [Int.toNat_natCast, List.getD_eq_getElem?_getD, List.getElem?_eq_getElem hj, Option.getD_some]
        rw [hrd] at x0 x1 x2 x3
        obtain ⟨l, hl⟩ : ∃ l, p.ls[j] = l := ⟨_, rfl⟩
        rw [hl] at x0 x1 x2 x3
        have HGET := Aside0.mk (show p.ls[j]? = some l by rw [List.getElem?_eq_getElem hj, hl])
        obtain ⟨y, hy⟩ : ∃ y : Int, (j : Int) = y := ⟨_, rfl⟩
        rw [hy] at x0 x1 x2 x3 ⊢
        have HX := Aside0.mk hy
        have b1 : decide (y < (p.ls.length : Int)) = true := decide_eq_true (by omega)
        have p1 : (0 ≤ y) = True := eq_true (by omega)
        have q1 : (y < (p.ls.length : Int)) = True := eq_true (by omega)
        have hn' : wrap64 (y + 1) = ((j + 1 : Nat) : Int) := by unfold wrap64; omega
        have HN := Aside0.mk hn'
        obtain ⟨gk, rfl⟩ : ∃ q, gk = q + 1 := ⟨gk - 1, by have := HJ.out.1; omega⟩
        clear hl hy hj hrd hn' z0 z1 z2 f0 f1 f2 d0 d1 d2
        go_upto_region 10 with (first | ((with_reducible refine gate_dst (N := 12) rfl ?_); refine sh_E 12 34 (lcA zeroL) ?_; intro g8 hg W1 hbox hb; have HG8 := Aside0.mk hg; have BK8 := Aside0.mk hbox; have HBB := Aside0.mk hb; obtain ⟨c0, c1, c2, c3⟩ := MBlk.c4 hbox; obtain ⟨f0, f1, f2, f3⟩ := MBlk.f4 hbox; clear hbox hb hg x0 x1 x2 x3) | fail)
        have hk8 := put4 (b0 := .bool l.f0.f0) (b1 := .int .u64 l.f0.f1) (b2 := .int .u64 l.f0.f2) (b3 := .int .i64 l.f1) BK8.out
        have hb8 : Below wr.heap.size wr ((((W1.setCell ⟨g8, 0, none⟩ (.bool l.f0.f0)).setCell ⟨g8, 1, none⟩ (.int .u64 l.f0.f1)).setCell ⟨g8, 2, none⟩ (.int .u64 l.f0.f2)).setCell ⟨g8, 3, none⟩ (.int .i64 l.f1)) := below4 HBB.out (by have := HG8.out; omega)
        clear HG8 HBB BK8 c0 c1 c2 c3 f0 f1 f2 f3
        generalize ((((W1.setCell ⟨g8, 0, none⟩ (.bool l.f0.f0)).setCell ⟨g8, 1, none⟩ (.int .u64 l.f0.f1)).setCell ⟨g8, 2, none⟩ (.int .u64 l.f0.f2)).setCell ⟨g8, 3, none⟩ (.int .i64 l.f1)) = W3 at hk8 hb8 ⊢
        clear W1
        replace HSS := Aside0.mk (HSS.out.below hb8)
        replace HC2 := Aside0.mk (below_step HC2.out hb8)
        obtain ⟨c0, c1, c2, c3⟩ := MBlk.c4 hk8
        obtain ⟨z0, z1, z2⟩ := MBlk.c3 HSS.out.b6
        obtain ⟨f0, f1, f2⟩ := MBlk.f3 HSS.out.b6
        obtain ⟨d0, d1, d2⟩ := MBlk.c3 HSS.out.b5
        clear hk8 hb8
        by_cases h6 : l.f0.f0 = a.f0
        · have HF := Aside0.mk (fam_some HGET.out h6 HJ.out.2)
          have h6b : (l.f0.f0 == a.f0) = true := by rw [h6]; simp
          clear h6
          go_wp2
          refine bodyPost_ret (results_ct rfl _ _ g6 25 (adA l.f0) (0, 0) _ rfl (put3 HSS.out.b6) hu25 rfl (by kernel_rfl)) rfl ?_
          exact ⟨⟨(l.f0, true), rfl, by rw [HF.out]; exact srcR_some HT.out⟩, below3 HSS.out.bel HSS.out.ge.2⟩
        · have h6b : (l.f0.f0 == a.f0) = false := by simpa using h6
          have H6 := Aside0.mk h6
          clear h6
          go_wp2
          go_roundg gk
          case measure => omega
          case rel => exact ⟨j + 1, by first | rw [HN.out] | exact congrArg _ (by have := HX.out; omega), ⟨by have := HJ.out.1; omega, fun i m hi hm => by
            rcases Nat.lt_or_ge i j with q | q
            · exact HJ.out.2 i m q hm
            · obtain rfl : i = j := by omega
              rw [HGET.out] at hm
              obtain rfl := Option.some.inj hm
              exact H6.out⟩, HSS, HC2⟩
      · have HF := Aside0.mk (fam_none (ls := p.ls) (six := a.f0) (fun i l hi hl => HJ.out.2 i l (by omega) hl))
        obtain ⟨y, hy⟩ : ∃ y : Int, (j : Int) = y := ⟨_, rfl⟩
        have b1 : decide (y < (p.ls.length : Int)) = false := decide_eq_false (by omega)
        rw [hy]
        clear hy hj
        go_wp2
        refine bodyPost_ret (results_ct rfl _ _ g6 25 (adA zeroA) (0, 0) _ rfl (put3 HSS.out.b6) hu25 rfl (by kernel_rfl)) rfl ?_
        exact ⟨⟨(zeroA, false), rfl, by rw [HF.out]; exact srcR_none HT.out⟩, below3 HSS.out.bel HSS.out.ge.2⟩
theorem source_calls (h : Mem w S sb mb v xs st) (h8 : st.length ≤ 8) (hls : ∀ p ∈ st, p.ls.length ≤ 8) (n : Int) (a : Ad) :
    Calls Try.prog 10 #[.pointer (some ⟨sb, 0, none⟩), .int .i64 n, .agg (adA a)] w fun e w' => e = .returned (.tuple #[.agg (adA (source st n a).1), .bool (source st n a).2]) ∧ Below w.heap.size w w' := by
  cases hn : at? st n with
  | none =>
    have e : source st n a = (zeroA, false) := by unfold source; rw [hn]
    rw [e]
    exact source_none h h8 n a hn
  | some i =>
    cases hva : validB a with
    | false =>
      have e : source st n a = (zeroA, false) := by unfold source; simp only [hn, hva, if_pos]
      rw [e]
      exact source_not h h8 n a hn hva
    | true =>
      obtain ⟨p, x, pb, c, hp, hx, hv, hS⟩ := at_get h hn
      have e : source st n a = srcR (best p.ls a) (famN p.ls a.f0) := by
        unfold source srcR
        have hl : (st[i]?.map (·.ls)).getD [] = p.ls := by rw [hp]; rfl
        simp only [hn, hva, hl, Bool.true_eq_false, if_false]
        rfl
      refine Calls.mono (source_done h h8 n a hn hva hp (hls p (List.mem_of_getElem? hp))) ?_
      rintro e' w' ⟨⟨r, h1, h2⟩, h3⟩
      rw [e, ← h2]
      exact ⟨h1, h3⟩
end
end Go.Proofs.Ytefbcigccfkkgaa.WIf
