/-
  The calls of a set of ports in memory, seventh part: the best local, who is near, whence one speaks. Conditions: those of each theorem.
-/
import Derived.Test.YtefbcigccfkkgaaWIface6
set_option linter.unusedVariables false
set_option linter.unusedSimpArgs false
namespace Go.Proofs.Ytefbcigccfkkgaa.WIf
open Go.RowKit Go.Maps Go.WideMaps Go.Proofs.Ytefbcigccfkkgaa.PBase Go.Proofs.YtefbcigccfkkgaaW.PrintWords Go.Proofs.YtefbcigccfkkgaaW.PrintLast Go.Proofs.YtefbcigccfkkgaaW.PrintMore Go.Proofs.Ytefbcigccfkkgaa.If
attribute [local go_sem] max2_int min2_int max_two min_two
/-- A local's cells. -/
abbrev lcA (l : Lo) : Array Value := #[.bool l.f0.f0, .int .u64 l.f0.f1, .int .u64 l.f0.f2, .int .i64 l.f1]
theorem far4 {w : World} {g k : Nat} {b0 b1 b2 b3 : Value} (h : k ≠ g) : ((((w.setCell ⟨g, 0, none⟩ b0).setCell ⟨g, 1, none⟩ b1).setCell ⟨g, 2, none⟩ b2).setCell ⟨g, 3, none⟩ b3).heap[k]? = w.heap[k]? := by
  rw [Below.heap_setCell _ _ _ k h, Below.heap_setCell _ _ _ k h, Below.heap_setCell _ _ _ k h, Below.heap_setCell _ _ _ k h]
theorem below4 {w0 w : World} {g : Nat} {b0 b1 b2 b3 : Value} (h : Below w0.heap.size w0 w) (hg : w0.heap.size ≤ g) : Below w0.heap.size w0 ((((w.setCell ⟨g, 0, none⟩ b0).setCell ⟨g, 1, none⟩ b1).setCell ⟨g, 2, none⟩ b2).setCell ⟨g, 3, none⟩ b3) :=
  below_set (below_set (below_set (below_set h hg) hg) hg) hg
theorem size4 {w : World} {g : Nat} {b0 b1 b2 b3 : Value} : ((((w.setCell ⟨g, 0, none⟩ b0).setCell ⟨g, 1, none⟩ b1).setCell ⟨g, 2, none⟩ b2).setCell ⟨g, 3, none⟩ b3).heap.size = w.heap.size := by simp [World.setCell]
/-- What the loop of best holds. -/
structure Bs (w0 w : World) (g3 g4 g6 : Nat) (a : Ad) (o : Lo) : Prop where mk ::
  (b3 : w.heap[g3]? = some (.cells #[.bool a.f0, .int .u64 a.f1, .int .u64 a.f2] 25 (0, 0)))
  (b4 : w.heap[g4]? = some (.cells (lcA zeroL) 34 (0, 0)))
  (b6 : w.heap[g6]? = some (.cells (lcA o) 34 (0, 0)))
  (ge : w0.heap.size ≤ g3 ∧ w0.heap.size ≤ g4 ∧ w0.heap.size ≤ g6 ∧ g4 ≠ g6 ∧ g3 ≠ g6)
  (bel : Below w0.heap.size w0 w)
theorem Bs.below {w0 w w1 : World} {g3 g4 g6 : Nat} {a : Ad} {o : Lo} (h : Bs w0 w g3 g4 g6 a o) (hb : Below w.heap.size w w1) : Bs w0 w1 g3 g4 g6 a o :=
  ⟨blk_below h.b3 hb, blk_below h.b4 hb, blk_below h.b6 hb, h.ge, below_step h.bel hb⟩
theorem Bs.put {w0 w : World} {g3 g4 g6 : Nat} {a : Ad} {o : Lo} (h : Bs w0 w g3 g4 g6 a o) (l : Lo) : Bs w0 ((((w.setCell ⟨g6, 0, none⟩ (.bool l.f0.f0)).setCell ⟨g6, 1, none⟩ (.int .u64 l.f0.f1)).setCell ⟨g6, 2, none⟩ (.int .u64 l.f0.f2)).setCell ⟨g6, 3, none⟩ (.int .i64 l.f1)) g3 g4 g6 a l :=
  ⟨(far4 h.ge.2.2.2.2).trans h.b3, (far4 h.ge.2.2.2.1).trans h.b4, put4 h.b6, h.ge, below4 h.bel h.ge.2.2.1⟩
/-- A struct of four cells in a block of its own. -/
theorem Bs.new {w0 w W : World} {g3 g4 g6 g t : Nat} {a : Ad} {o : Lo} {b0 b1 b2 b3 c0 c1 c2 c3 : Value} (h : Bs w0 w g3 g4 g6 a o) (hg : g = w.heap.size) (hb : Below w.heap.size w W) (hbox : W.heap[g]? = some (.cells #[c0, c1, c2, c3] t (0, 0))) :
    Bs w0 ((((W.setCell ⟨g, 0, none⟩ b0).setCell ⟨g, 1, none⟩ b1).setCell ⟨g, 2, none⟩ b2).setCell ⟨g, 3, none⟩ b3) g3 g4 g6 a o ∧ ((((W.setCell ⟨g, 0, none⟩ b0).setCell ⟨g, 1, none⟩ b1).setCell ⟨g, 2, none⟩ b2).setCell ⟨g, 3, none⟩ b3).heap[g]? = some (.cells #[b0, b1, b2, b3] t (0, 0)) ∧
      Below w.heap.size w ((((W.setCell ⟨g, 0, none⟩ b0).setCell ⟨g, 1, none⟩ b1).setCell ⟨g, 2, none⟩ b2).setCell ⟨g, 3, none⟩ b3) := by
  have hbb : Below w.heap.size w ((((W.setCell ⟨g, 0, none⟩ b0).setCell ⟨g, 1, none⟩ b1).setCell ⟨g, 2, none⟩ b2).setCell ⟨g, 3, none⟩ b3) := below4 hb (by omega)
  exact ⟨h.below hbb, put4 hbox, hbb⟩
theorem take_fold {ls : List Lo} {a : Ad} {i : Nat} {l : Lo} (h : ls[i]? = some l) : (ls.take (i + 1)).foldl (bestF a) zeroL = bestF a ((ls.take i).foldl (bestF a) zeroL) l := by
  have hi := (List.getElem?_eq_some_iff.1 h).1
  rw [List.take_add_one, h, Option.toList_some, List.foldl_append]; rfl
set_option maxHeartbeats 4000000 in
set_option maxRecDepth 100000 in
theorem best_calls (w : World) (pb i : Nat) (v : Value) (ls : List Lo) (hrow : RL w v ls) (h8 : ls.length ≤ 8) (hc : w.cell? ⟨pb, i * 5 + 4, none⟩ = some v) (a : Ad) :
    Calls Try.prog 28 #[.pointer (some ⟨pb, i * 5, none⟩), .agg #[.bool a.f0, .int .u64 a.f1, .int .u64 a.f2]] w fun e w' => e = .returned (.tuple #[.agg (lcA (best ls a)), .bool (decide ((best ls a).f1 > 0))]) ∧ Below w.heap.size w w' := by
  obtain ⟨A, c, e, hC⟩ := RL.reads hrow
  subst e
  have hu25 := Try.underlying25
  have hu34 := Try.underlying34
  have hu83 := Try.underlying83
  have HB := Aside0.mk (Below.refl w.heap.size w)
  go_enter Try.func28, Try.ntmps28
  go_wp2_with (first | ((with_reducible refine gate_dst (N := 3) rfl ?_); refine sh_E 3 25 #[.bool a.f0, .int .u64 a.f1, .int .u64 a.f2] ?_; intro g3 hg w1 hbox hb; have GE3 := sh_G HB hg; replace HB := sh_S HB hb; have BK3 := Aside0.mk hbox; replace hc := pw_cell_below hb hc; clear hbox hb hg) | ((with_reducible refine gate_dst (N := 4) rfl ?_); refine sh_E 4 34 (lcA zeroL) ?_; intro g4 hg w2 hbox hb; have GE4 := sh_G HB hg; replace HB := sh_S HB hb; replace BK3 := sh_L BK3 hb; have BK4 := Aside0.mk hbox; replace hc := pw_cell_below hb hc; clear hbox hb hg) | ((with_reducible refine gate_dst (N := 6) rfl ?_); refine sh_E 6 34 (lcA zeroL) ?_; intro g6 hg w3 hbox hb; have GE6 := sh_G HB hg; have N46 := sh_N BK4 hg; have N36 := sh_N BK3 hg; replace HB := sh_S HB hb; replace BK3 := sh_L BK3 hb; replace BK4 := sh_L BK4 hb; have BK6 := Aside0.mk hbox; replace hc := pw_cell_below hb hc; clear hbox hb hg) | fail)
  have HBS := Aside0.mk (show Bs w w3 g3 g4 g6 a zeroL from ⟨BK3.out, BK4.out, BK6.out, ⟨GE3.out, GE4.out, GE6.out, N46.out, N36.out⟩, HB.out⟩)
  clear BK3 BK4 BK6 N46 N36 GE3 GE4 GE6 HB hc
  have HC := Aside0.mk hC
  clear hC
  go_loopg [16] ls.length (fun kq v16 w' => ∃ (j : Nat) (o : Lo), v16 = .int .i64 (j : Int) ∧ Aside0 (j + kq = ls.length ∧ o = (ls.take j).foldl (bestF a) zeroL) ∧ Aside0 (Bs w w' g3 g4 g6 a o))
  case atStart => exact ⟨0, zeroL, rfl, ⟨by omega, rfl⟩, HBS⟩
  case round =>
    clear HBS
    obtain ⟨j, o, rfl, HJ, HBS⟩ := hrel
    by_cases hj : j < ls.length
    · obtain ⟨ad, e, x0, x1, x2, x3⟩ := at_T34 (Kd.C_below HC.out HBS.out.bel) (j : Int) (by omega) (by omega)
      subst e
      have hrd : rd_T34 ls (j : Int) = ls[j] := by
        unfold rd_T34
        rw [Int.toNat_natCast, List.getD_eq_getElem?_getD, List.getElem?_eq_getElem hj, Option.getD_some]
      rw [hrd] at x0 x1 x2 x3
      obtain ⟨l, hl⟩ : ∃ l, ls[j] = l := ⟨_, rfl⟩
      rw [hl] at x0 x1 x2 x3
      have HGET := Aside0.mk (show ls[j]? = some l by rw [List.getElem?_eq_getElem hj, hl])
      obtain ⟨x, hx⟩ : ∃ x : Int, (j : Int) = x := ⟨_, rfl⟩
      rw [hx] at x0 x1 x2 x3 ⊢
      have HX := Aside0.mk hx
      have b1 : decide (x < (ls.length : Int)) = true := decide_eq_true (by omega)
      have p1 : (0 ≤ x) = True := eq_true (by omega)
      have q1 : (x < (ls.length : Int)) = True := eq_true (by omega)
      have hn : wrap64 (x + 1) = ((j + 1 : Nat) : Int) := by unfold wrap64; omega
      have HN := Aside0.mk hn
      obtain ⟨gk, rfl⟩ : ∃ q, gk = q + 1 := ⟨gk - 1, by have := HJ.out.1; omega⟩
      clear hl hx hj hrd hn
      go_upto_region 5 with (first | ((with_reducible refine gate_dst (N := 8) rfl ?_); refine sh_E 8 34 (lcA zeroL) ?_; intro g8 hg W1 hbox hb; have HG8 := Aside0.mk hg; have BK8 := Aside0.mk hbox; have HBB := Aside0.mk hb; obtain ⟨c0, c1, c2, c3⟩ := MBlk.c4 hbox; obtain ⟨f0, f1, f2, f3⟩ := MBlk.f4 hbox; clear hbox hb hg x0 x1 x2 x3) | fail)
      have hnew := HBS.out.new (b0 := .bool l.f0.f0) (b1 := .int .u64 l.f0.f1) (b2 := .int .u64 l.f0.f2) (b3 := .int .i64 l.f1) HG8.out HBB.out BK8.out
      clear HBS HG8 HBB BK8 c0 c1 c2 c3 f0 f1 f2 f3
      generalize ((((W1.setCell ⟨g8, 0, none⟩ (.bool l.f0.f0)).setCell ⟨g8, 1, none⟩ (.int .u64 l.f0.f1)).setCell ⟨g8, 2, none⟩ (.int .u64 l.f0.f2)).setCell ⟨g8, 3, none⟩ (.int .i64 l.f1)) = W2 at hnew ⊢
      clear W1
      obtain ⟨hs8, hk8, _⟩ := hnew
      have HBS := Aside0.mk hs8
      have BK8 := Aside0.mk hk8
      obtain ⟨c0, c1, c2, c3⟩ := MBlk.c4 hk8
      clear hs8 hk8
      obtain ⟨⟨r1, r2, r3, r4, r5⟩, hq⟩ := of_some' l.f0.f0 l.f0.f1 l.f0.f2 l.f1
      have HQ := Aside0.mk hq
      clear hq
      go_wp2_with fail
      refine Calls.mono (prefix_Of.calls l.f0.f0 l.f0.f1 l.f0.f2 l.f1 r1 r2 r3 r4 r5 _ HQ.out) ?_
      rintro e W3 ⟨rfl, hb⟩
      replace HBS := Aside0.mk (HBS.out.below hb)
      replace BK8 := Aside0.mk (blk_below BK8.out hb)
      clear hb c0 c1 c2 c3
      go_upto_region 6 with (first | ((with_reducible refine gate_dst (N := 9) rfl ?_); refine sh_E 9 83 #[.bool false, .int .u64 0, .int .u64 0, .int .i64 0] ?_; intro g9 hg W4 hbox hb; have HG9 := Aside0.mk hg; have BK9 := Aside0.mk hbox; have HBB := Aside0.mk hb; obtain ⟨c0, c1, c2, c3⟩ := MBlk.c4 hbox; obtain ⟨f0, f1, f2, f3⟩ := MBlk.f4 hbox; clear hbox hb hg) | fail)
      have hnew := HBS.out.new (b0 := .bool r1) (b1 := .int .u64 r2) (b2 := .int .u64 r3) (b3 := .int .i64 r4) HG9.out HBB.out BK9.out
      clear HBS HG9 HBB BK9 c0 c1 c2 c3 f0 f1 f2 f3
      generalize ((((W4.setCell ⟨g9, 0, none⟩ (.bool r1)).setCell ⟨g9, 1, none⟩ (.int .u64 r2)).setCell ⟨g9, 2, none⟩ (.int .u64 r3)).setCell ⟨g9, 3, none⟩ (.int .i64 r4)) = W5 at hnew ⊢
      clear W4
      obtain ⟨hs9, hk9, hb9⟩ := hnew
      have HBS := Aside0.mk hs9
      have BK9 := Aside0.mk hk9
      replace BK8 := Aside0.mk (blk_below BK8.out hb9)
      obtain ⟨c0, c1, c2, c3⟩ := MBlk.c4 hk9
      obtain ⟨d0, d1, d2, d3⟩ := MBlk.c4 BK8.out
      obtain ⟨o0, o1, o2, o3⟩ := MBlk.c4 hs9.b6
      obtain ⟨e0, e1, e2⟩ := MBlk.c3 hs9.b3
      clear hs9 hk9 hb9
      by_cases hlt : o.f1 < l.f1
      · obtain ⟨r, hr⟩ := holds_some r1 r2 r3 r4 a.f0 a.f1 a.f2
        have HR := Aside0.mk hr
        have HHB := Aside0.mk (show holdsB l a = r by unfold holdsB; rw [HQ.out]; simp only [Option.bind_some]; rw [hr]; rfl)
        clear hr
        go_wp2_with fail
        refine Calls.mono (prefix_Holds.calls r1 r2 r3 r4 a.f0 a.f1 a.f2 r _ HR.out) ?_
        rintro e W6 ⟨rfl, hb⟩
        replace HBS := Aside0.mk (HBS.out.below hb)
        replace BK8 := Aside0.mk (blk_below BK8.out hb)
        clear hb c0 c1 c2 c3 d0 d1 d2 d3 o0 o1 o2 o3 e0 e1 e2
        cases r with
        | true =>
          have hbs := HBS.out.put l
          have HB2 := Aside0.mk hbs
          obtain ⟨d0, d1, d2, d3⟩ := MBlk.c4 BK8.out
          obtain ⟨o0, o1, o2, o3⟩ := MBlk.c4 HBS.out.b6
          obtain ⟨f0, f1, f2, f3⟩ := MBlk.f4 HBS.out.b6
          clear hbs
          go_wp2
          go_roundg gk
          case measure => omega
          case rel => exact ⟨j + 1, l, by first | rw [HN.out] | exact congrArg _ (by have := HX.out; omega), ⟨by have := HJ.out.1; omega, by rw [take_fold HGET.out, ← HJ.out.2]; unfold bestF; rw [if_pos ⟨hlt, HHB.out⟩]⟩, HB2⟩
        | false =>
          go_wp2
          go_roundg gk
          case measure => omega
          case rel => exact ⟨j + 1, o, by first | rw [HN.out] | exact congrArg _ (by have := HX.out; omega), ⟨by have := HJ.out.1; omega, by rw [take_fold HGET.out, ← HJ.out.2]; unfold bestF; rw [if_neg (fun z => by rw [HHB.out] at z; exact absurd z.2 (by decide))]⟩, HBS⟩
      · go_wp2
        go_roundg gk
        case measure => omega
        case rel => exact ⟨j + 1, o, by first | rw [HN.out] | exact congrArg _ (by have := HX.out; omega), ⟨by have := HJ.out.1; omega, by rw [take_fold HGET.out, ← HJ.out.2]; unfold bestF; rw [if_neg (fun z => by have := z.1; omega)]⟩, HBS⟩
    · have hbest : best ls a = o := by
        rw [HJ.out.2, List.take_of_length_le (by omega)]; rfl
      have HBE := Aside0.mk hbest
      obtain ⟨o0, o1, o2, o3⟩ := MBlk.c4 HBS.out.b6
      obtain ⟨z0, z1, z2, z3⟩ := MBlk.c4 HBS.out.b4
      obtain ⟨f0, f1, f2, f3⟩ := MBlk.f4 HBS.out.b4
      obtain ⟨x, hx⟩ : ∃ x : Int, (j : Int) = x := ⟨_, rfl⟩
      have b1 : decide (x < (ls.length : Int)) = false := decide_eq_false (by omega)
      rw [hx]
      clear hx hj hbest
      have n46 : g4 ≠ g6 := HBS.out.ge.2.2.2.1
      have n64 : g6 ≠ g4 := fun e => HBS.out.ge.2.2.2.1 e.symm
      go_wp2_with fail
      go_region
      go_wp2
      refine bodyPost_ret (results_ct rfl _ _ g4 34 (lcA o) (0, 0) _ rfl (put4 HBS.out.b4) hu34 rfl (by kernel_rfl)) rfl ?_
      rw [HBE.out]
      exact ⟨rfl, by first | exact below4 HBS.out.bel HBS.out.ge.2.1 | exact pw_below_drewN (below4 HBS.out.bel HBS.out.ge.2.1) _ | exact below_drew1 (below4 HBS.out.bel HBS.out.ge.2.1) | exact below4 (pw_below_drewN HBS.out.bel _) HBS.out.ge.2.1 | exact below4 (below_drew1 HBS.out.bel) HBS.out.ge.2.1⟩
def nearAt (a : Ad) (st : St) (i : Nat) : Int × Int := (List.range i).foldl (nearF a st) (0, 0)
theorem nearAt_succ {a : Ad} {st : St} {i : Nat} {p : Pt} (h : st[i]? = some p) : nearAt a st (i + 1) = if (best p.ls a).f1 > 0 ∧ p.up = true ∧ (best p.ls a).f1 > (nearAt a st i).2 then ((i : Int) + 1, (best p.ls a).f1) else nearAt a st i := by
  unfold nearAt
  rw [List.range_succ, List.foldl_append, List.foldl_cons, List.foldl_nil]
  show nearF a st _ i = _
  unfold nearF
  rw [h]
section
variable {w : World} {S : Nat → Prop} {sb mb : Nat} {v : Value} {xs : List PS} {st : St}
set_option maxHeartbeats 4000000 in
set_option maxRecDepth 100000 in
theorem near_calls (h : Mem w S sb mb v xs st) (h8 : st.length ≤ 8) (hls : ∀ p ∈ st, p.ls.length ≤ 8) (a : Ad) :
    Calls Try.prog 20 #[.pointer (some ⟨sb, 0, none⟩), .agg #[.bool a.f0, .int .u64 a.f1, .int .u64 a.f2]] w fun e w' => e = .returned (.tuple #[.int .i64 (near st a), .bool (decide (near st a > 0))]) ∧ Below w.heap.size w w' := by
  have hu25 := Try.underlying25
  have hu34 := Try.underlying34
  have HB := Aside0.mk (Below.refl w.heap.size w)
  obtain ⟨A, c, ev⟩ := h.row.slice
  rw [h.len] at ev
  subst ev
  have HLEN := Aside0.mk h.len
  obtain ⟨s0, s1⟩ := MBlk.c2 h.blk
  go_enter Try.func20, Try.ntmps20
  go_wp2_with (first | ((with_reducible refine gate_dst (N := 3) rfl ?_); refine sh_E 3 25 #[.bool a.f0, .int .u64 a.f1, .int .u64 a.f2] ?_; intro g hg w1 hbox hb; replace HB := sh_S HB hb; have BK := Aside0.mk hbox; have HM := Aside0.mk (h.below hb); replace s0 := pw_cell_below hb s0; replace s1 := pw_cell_below hb s1; clear hbox hb hg) | fail)
  clear h
  go_loopg [6, 7, 16] st.length (fun kq v6 v7 v16 w' => ∃ (j : Nat) (o : Int × Int), v6 = .int .i64 o.1 ∧ v7 = .int .i64 o.2 ∧ v16 = .int .i64 (j : Int) ∧ Aside0 (j + kq = st.length ∧ o = nearAt a st j) ∧ Aside0 (Below w1.heap.size w1 w'))
  case atStart => exact ⟨0, (0, 0), rfl, rfl, rfl, ⟨by omega, rfl⟩, ⟨Below.refl _ _⟩⟩
  case round =>
    obtain ⟨j, ⟨o1, o2⟩, rfl, rfl, rfl, HJ, HC⟩ := hrel
    by_cases hj : j < st.length
    · have HM2 := Aside0.mk (HM.out.below HC.out)
      obtain ⟨pb, c', e⟩ := HM.out.row.shape (by rw [HM.out.len]; omega)
      injection e with e1 e2 e3
      subst e1
      subst e3
      clear e2
      obtain ⟨p, hp⟩ : ∃ p, st[j]? = some p := ⟨_, List.getElem?_eq_getElem hj⟩
      obtain ⟨y, hy⟩ : ∃ y, xs[j]? = some y := ⟨_, List.getElem?_eq_getElem (by rw [HLEN.out]; exact hj)⟩
      obtain ⟨hl1, hrl⟩ := HM2.out.like j p y hp hy
      have hcl := (HM2.out.row.cell hy (j := 4) rfl).1
      have hup := (HM2.out.row.cell hy (j := 3) rfl).1
      rw [hl1] at hup
      have r0 := pw_cell_below HC.out s0
      have BK2 := Aside0.mk (blk_below BK.out HC.out)
      obtain ⟨c0, c1, c2⟩ := MBlk.c3 BK2.out
      have hp8 := hls p (List.mem_of_getElem? hp)
      have HP := Aside0.mk hp
      obtain ⟨x, hx⟩ : ∃ x : Int, (j : Int) = x := ⟨_, rfl⟩
      have hxi : x.toNat = j := by omega
      rw [hx]
      have HX := Aside0.mk hx
      have b1 : decide (x < (st.length : Int)) = true := decide_eq_true (by omega)
      have p1 : (0 ≤ x) = True := eq_true (by omega)
      have q1 : (x < (st.length : Int)) = True := eq_true (by omega)
      have hn : wrap64 (x + 1) = ((j + 1 : Nat) : Int) := by unfold wrap64; omega
      have HN := Aside0.mk hn
      obtain ⟨gk, rfl⟩ : ∃ q, gk = q + 1 := ⟨gk - 1, by have := HJ.out.1; omega⟩
      have hbc := fun W (hW : Below wr.heap.size wr W) => best_calls W pb j (sv y.l) p.ls (RL.keep hrl (fun k hk => hW.block k (RL.lt hrl k hk))) hp8 (pw_cell_below hW hcl) a
      obtain ⟨b, hbb⟩ : ∃ b, best p.ls a = b := ⟨_, rfl⟩
      have HBB := Aside0.mk hbb
      rw [hbb] at hbc
      clear hn hx hbb hcl hp hy hj hl1 hrl
      go_wp2_with fail
      go_region_held3 (fun w2 => w2.cell? ⟨sb, 0, none⟩ = some (.slice (some ⟨pb, 0, none⟩) st.length c) ∧ w2.cell? ⟨g, 0, none⟩ = some (.bool a.f0) ∧ w2.cell? ⟨g, 1, none⟩ = some (.int .u64 a.f1) ∧ w2.cell? ⟨g, 2, none⟩ = some (.int .u64 a.f2)) (first | (with_reducible exact ⟨r0, c0, c1, c2⟩) | (with_reducible exact ⟨pw_cell_below HD.out r0, pw_cell_below HD.out c0, pw_cell_below HD.out c1, pw_cell_below HD.out c2⟩) | (with_reducible exact ⟨pw_cell_below (below_alloc HD.out _) r0, pw_cell_below (below_alloc HD.out _) c0, pw_cell_below (below_alloc HD.out _) c1, pw_cell_below (below_alloc HD.out _) c2⟩) | (with_reducible exact ⟨pw_cell_below (below4 HD.out (Nat.le_refl _)) r0, pw_cell_below (below4 HD.out (Nat.le_refl _)) c0, pw_cell_below (below4 HD.out (Nat.le_refl _)) c1, pw_cell_below (below4 HD.out (Nat.le_refl _)) c2⟩) | (with_reducible exact ⟨pw_cell_below (below_alloc (Below.refl _ _) _) r0, pw_cell_below (below_alloc (Below.refl _ _) _) c0, pw_cell_below (below_alloc (Below.refl _ _) _) c1, pw_cell_below (below_alloc (Below.refl _ _) _) c2⟩) | (with_reducible exact ⟨pw_cell_below (below_drew1 (below_alloc (Below.refl _ _) _)) r0, pw_cell_below (below_drew1 (below_alloc (Below.refl _ _) _)) c0, pw_cell_below (below_drew1 (below_alloc (Below.refl _ _) _)) c1, pw_cell_below (below_drew1 (below_alloc (Below.refl _ _) _)) c2⟩) | (with_reducible exact ⟨pw_cell_below (below_alloc (below_drew1 (Below.refl _ _)) _) r0, pw_cell_below (below_alloc (below_drew1 (Below.refl _ _)) _) c0, pw_cell_below (below_alloc (below_drew1 (Below.refl _ _)) _) c1, pw_cell_below (below_alloc (below_drew1 (Below.refl _ _)) _) c2⟩) | (exact ⟨r0, c0, c1, c2⟩)) (first | (go_at_call 28; refine Calls.mono (hbc _ ?hb) ?_; (case hb => (repeat (first | exact Below.refl _ _ | apply below_alloc | apply below_drew1 | apply pw_below_drewN))); rintro e w2 ⟨rfl, hb⟩; have HD := Aside0.mk (show Below wr.heap.size wr w2 from below_step (by repeat (first | exact Below.refl _ _ | apply below_alloc | apply below_drew1 | apply pw_below_drewN)) hb); try (have BK9 : w2.heap[wr.heap.size]? = some (.cells (lcA zeroL) 34 (0, 0)) := blk_below (w := (wr.alloc (.cells (lcA zeroL) 34)).drew) (blk_new wr (.cells (lcA zeroL) 34)) hb; obtain ⟨z0, z1, z2, z3⟩ := MBlk.c4 BK9; obtain ⟨f0, f1, f2, f3⟩ := MBlk.f4 BK9; have BK9 := Aside0.mk BK9); have k0 := pw_cell_below HD.out r0; have d0 := pw_cell_below HD.out c0; have d1 := pw_cell_below HD.out c1; have d2 := pw_cell_below HD.out c2; have n0 := World.new_ne w2 _ k0; have n1 := World.new_ne w2 _ d0; clear hb) | fail)
      all_goals (go_upto_region 6 with (fail))
      · have hk5 : (w2.alloc (.cells #[.bool b.f0.f0, .int .u64 b.f0.f1, .int .u64 b.f0.f2, .int .i64 b.f1] 34)).heap[w2.heap.size]? = some (.cells #[.bool b.f0.f0, .int .u64 b.f0.f1, .int .u64 b.f0.f2, .int .i64 b.f1] 34 (0, 0)) := blk_new w2 _
        have hd5 : Below wr.heap.size wr (w2.alloc (.cells #[.bool b.f0.f0, .int .u64 b.f0.f1, .int .u64 b.f0.f2, .int .i64 b.f1] 34)) := below_alloc HD.out _
        generalize w2.alloc (.cells #[.bool b.f0.f0, .int .u64 b.f0.f1, .int .u64 b.f0.f2, .int .i64 b.f1] 34) = W5 at hk5 hd5 ⊢
        generalize w2.heap.size = g9 at hk5 ⊢
        have BK5 := Aside0.mk hk5
        have HC5 := Aside0.mk (below_step HC.out hd5)
        have k0 := pw_cell_below hd5 r0
        have ku := pw_cell_below hd5 hup
        obtain ⟨z0, z1, z2, z3⟩ := MBlk.c4 hk5
        clear hk5 hd5 r0 hup c0 c1 c2
        by_cases t1 : 0 < b.f1
        · cases hu : p.up with
          | true =>
            have HU := Aside0.mk hu
            rw [hu] at ku
            clear hu
            by_cases t2 : o2 < b.f1
            · have HT := Aside0.mk (And.intro t1 t2)
              go_wp2_with fail
              go_region
              go_wp2
              go_roundg gk
              case measure => omega
              case rel => exact ⟨j + 1, ((j : Int) + 1, b.f1), by first | (rw [HN.out]; exact congrArg _ (by omega)) | exact congrArg _ (by have := HX.out; omega), rfl, by first | rw [HN.out] | exact congrArg _ (by have := HX.out; omega), ⟨by have := HJ.out.1; omega, by rw [nearAt_succ HP.out, HBB.out, ← HJ.out.2, if_pos ⟨HT.out.1, HU.out, HT.out.2⟩]⟩, ⟨below_drew1 HC5.out⟩⟩
            · have HT := Aside0.mk t2
              go_wp2
              go_roundg gk
              case measure => omega
              case rel => exact ⟨j + 1, (o1, o2), rfl, rfl, by first | rw [HN.out] | exact congrArg _ (by have := HX.out; omega), ⟨by have := HJ.out.1; omega, by rw [nearAt_succ HP.out, HBB.out, ← HJ.out.2, if_neg (fun z => by have h1 := HT.out; have h2 := z.2.2; simp only at h2; omega)]⟩, HC5⟩
          | false =>
            have HU := Aside0.mk hu
            rw [hu] at ku
            clear hu
            go_wp2
            go_roundg gk
            case measure => omega
            case rel => exact ⟨j + 1, (o1, o2), rfl, rfl, by first | rw [HN.out] | exact congrArg _ (by have := HX.out; omega), ⟨by have := HJ.out.1; omega, by rw [nearAt_succ HP.out, HBB.out, ← HJ.out.2, if_neg (fun z => by rw [HU.out] at z; exact absurd z.2.1 (by decide))]⟩, HC5⟩
        · have HT := Aside0.mk t1
          go_wp2
          go_roundg gk
          case measure => omega
          case rel => exact ⟨j + 1, (o1, o2), rfl, rfl, by first | rw [HN.out] | exact congrArg _ (by have := HX.out; omega), ⟨by have := HJ.out.1; omega, by rw [nearAt_succ HP.out, HBB.out, ← HJ.out.2, if_neg (fun z => by have h1 := HT.out; have h2 := z.1; omega)]⟩, HC5⟩
      · have hk5 : ((((w2.setCell ⟨wr.heap.size, 0, none⟩ (.bool b.f0.f0)).setCell ⟨wr.heap.size, 1, none⟩ (.int .u64 b.f0.f1)).setCell ⟨wr.heap.size, 2, none⟩ (.int .u64 b.f0.f2)).setCell ⟨wr.heap.size, 3, none⟩ (.int .i64 b.f1)).heap[wr.heap.size]? = some (.cells #[.bool b.f0.f0, .int .u64 b.f0.f1, .int .u64 b.f0.f2, .int .i64 b.f1] 34 (0, 0)) := put4 BK9.out
        have hd5 : Below wr.heap.size wr ((((w2.setCell ⟨wr.heap.size, 0, none⟩ (.bool b.f0.f0)).setCell ⟨wr.heap.size, 1, none⟩ (.int .u64 b.f0.f1)).setCell ⟨wr.heap.size, 2, none⟩ (.int .u64 b.f0.f2)).setCell ⟨wr.heap.size, 3, none⟩ (.int .i64 b.f1)) := below4 HD.out (Nat.le_refl _)
        generalize ((((w2.setCell ⟨wr.heap.size, 0, none⟩ (.bool b.f0.f0)).setCell ⟨wr.heap.size, 1, none⟩ (.int .u64 b.f0.f1)).setCell ⟨wr.heap.size, 2, none⟩ (.int .u64 b.f0.f2)).setCell ⟨wr.heap.size, 3, none⟩ (.int .i64 b.f1)) = W5 at hk5 hd5 ⊢
        clear z0 z1 z2 z3 f0 f1 f2 f3
        obtain ⟨g9, hg9⟩ : ∃ g9, wr.heap.size = g9 := ⟨_, rfl⟩
        rw [hg9] at hk5 ⊢
        clear hg9
        have BK5 := Aside0.mk hk5
        have HC5 := Aside0.mk (below_step HC.out hd5)
        have k0 := pw_cell_below hd5 r0
        have ku := pw_cell_below hd5 hup
        obtain ⟨z0, z1, z2, z3⟩ := MBlk.c4 hk5
        clear hk5 hd5 r0 hup c0 c1 c2
        by_cases t1 : 0 < b.f1
        · cases hu : p.up with
          | true =>
            have HU := Aside0.mk hu
            rw [hu] at ku
            clear hu
            by_cases t2 : o2 < b.f1
            · have HT := Aside0.mk (And.intro t1 t2)
              go_wp2_with fail
              go_region
              go_wp2
              go_roundg gk
              case measure => omega
              case rel => exact ⟨j + 1, ((j : Int) + 1, b.f1), by first | (rw [HN.out]; exact congrArg _ (by omega)) | exact congrArg _ (by have := HX.out; omega), rfl, by first | rw [HN.out] | exact congrArg _ (by have := HX.out; omega), ⟨by have := HJ.out.1; omega, by rw [nearAt_succ HP.out, HBB.out, ← HJ.out.2, if_pos ⟨HT.out.1, HU.out, HT.out.2⟩]⟩, ⟨below_drew1 HC5.out⟩⟩
            · have HT := Aside0.mk t2
              go_wp2
              go_roundg gk
              case measure => omega
              case rel => exact ⟨j + 1, (o1, o2), rfl, rfl, by first | rw [HN.out] | exact congrArg _ (by have := HX.out; omega), ⟨by have := HJ.out.1; omega, by rw [nearAt_succ HP.out, HBB.out, ← HJ.out.2, if_neg (fun z => by have h1 := HT.out; have h2 := z.2.2; simp only at h2; omega)]⟩, HC5⟩
          | false =>
            have HU := Aside0.mk hu
            rw [hu] at ku
            clear hu
            go_wp2
            go_roundg gk
            case measure => omega
            case rel => exact ⟨j + 1, (o1, o2), rfl, rfl, by first | rw [HN.out] | exact congrArg _ (by have := HX.out; omega), ⟨by have := HJ.out.1; omega, by rw [nearAt_succ HP.out, HBB.out, ← HJ.out.2, if_neg (fun z => by rw [HU.out] at z; exact absurd z.2.1 (by decide))]⟩, HC5⟩
        · have HT := Aside0.mk t1
          go_wp2
          go_roundg gk
          case measure => omega
          case rel => exact ⟨j + 1, (o1, o2), rfl, rfl, by first | rw [HN.out] | exact congrArg _ (by have := HX.out; omega), ⟨by have := HJ.out.1; omega, by rw [nearAt_succ HP.out, HBB.out, ← HJ.out.2, if_neg (fun z => by have h1 := HT.out; have h2 := z.1; omega)]⟩, HC5⟩
    · have hd : nearAt a st j = (o1, o2) := HJ.out.2.symm
      have hjl : j = st.length := by have := HJ.out.1; omega
      have hv : near st a = o1 := by unfold near; rw [← hjl]; exact congrArg Prod.fst hd
      obtain ⟨x, hx⟩ : ∃ x : Int, (j : Int) = x := ⟨_, rfl⟩
      have b1 : decide (x < (st.length : Int)) = false := decide_eq_false (by omega)
      have HV := Aside0.mk hv
      rw [hx]
      clear hd hjl hv hx hj
      go_wp2
      go_ret2
      rw [HV.out]
      exact ⟨rfl, below_then HB.out HB.out.size HC.out⟩
end
end Go.Proofs.Ytefbcigccfkkgaa.WIf
