import Derived.Test.YtefbcigccfkkgaaWIfaceDA
set_option linter.unusedVariables false
set_option linter.unusedSimpArgs false
namespace Go.Proofs.Ytefbcigccfkkgaa.WIf
open Go.RowKit Go.Maps Go.WideMaps Go.Proofs.Ytefbcigccfkkgaa.PBase Go.Proofs.YtefbcigccfkkgaaW.PrintWords Go.Proofs.YtefbcigccfkkgaaW.PrintLast Go.Proofs.YtefbcigccfkkgaaW.PrintMore Go.Proofs.Ytefbcigccfkkgaa.If
attribute [local go_sem] max2_int min2_int max_two min_two
theorem neA25 (w : World) (x0 y0 : Bool) (x1 y1 : Int) (x2 y2 : Int) :
    (binOp .neq 25 (.agg #[.bool x0, .int .u64 x1, .int .u64 x2]) (.agg #[.bool y0, .int .u64 y1, .int .u64 y2])).run Try.prog w = .ok (.bool (!(eqA ⟨x0, x1, x2⟩ ⟨y0, y1, y2⟩))) w := by
  rw [run_neq_struct, show (10000 : Nat) = 9998 + 2 from rfl, eqA25]
  rfl
attribute [local go_sem high] neA25
def other (a : Ad) (ls : List Lo) : List Lo := ls.filter fun l => !eqA l.f0 a
theorem other_len (a : Ad) (ls : List Lo) : (other a ls).length ≤ ls.length := List.length_filter_le _ _
theorem other_none {a : Ad} {ls : List Lo} (h : ∀ l ∈ ls, l.f0 ≠ a) : other a ls = ls := by
  unfold other
  rw [List.filter_eq_self]
  intro l hl
  cases e : eqA l.f0 a with
  | false => rfl
  | true => exact absurd (eqA_iff.1 e) (h l hl)
theorem other_some {a : Ad} : ∀ {ls : List Lo} {k : Nat}, ls.Pairwise (fun x y => x.f0 ≠ y.f0) → place ls a = some k → other a ls = ls.eraseIdx k := by
  intro ls
  induction ls with
  | nil => intro k _ h; simp [place] at h
  | cons l r ih =>
    intro k hp h
    obtain ⟨h1, h2⟩ := List.pairwise_cons.1 hp
    unfold place at h
    by_cases c : eqA l.f0 a = true
    · rw [if_pos c] at h
      obtain rfl := Option.some.inj h
      have e : other a r = r := other_none (fun m hm e => h1 m hm ((eqA_iff.1 c).trans e.symm))
      unfold other at e ⊢
      rw [List.filter_cons, if_neg (by rw [c]; decide), e]
      rfl
    · rw [if_neg c] at h
      obtain ⟨j, hj, rfl⟩ := Option.map_eq_some_iff.1 h
      have e := ih h2 hj
      have c' : eqA l.f0 a = false := by simpa using c
      unfold other at e ⊢
      rw [List.filter_cons, if_pos (by rw [c']; rfl), e]
      rfl
theorem other_next {a : Ad} {ls : List Lo} {k : Nat} {l : Lo} (h : ls[k]? = some l) (hq : eqA l.f0 a = false) : other a (ls.take (k + 1)) = other a (ls.take k) ++ [l] := by
  unfold other
  rw [List.take_add_one, h, List.filter_append]
  simp [hq]
theorem other_skip {a : Ad} {ls : List Lo} {k : Nat} {l : Lo} (h : ls[k]? = some l) (hq : eqA l.f0 a = true) : other a (ls.take (k + 1)) = other a (ls.take k) := by
  unfold other
  rw [List.take_add_one, h, List.filter_append]
  simp [hq]
section
variable {w : World} {S : Nat → Prop} {db : Nat} {v1 v2 : Value} {ls : List Sl} {st : St}
set_option maxHeartbeats 1000000 in
set_option maxRecDepth 100000 in
theorem ddrop_none (h : Dem w S db v1 v2 ls st) (h8 : st.length ≤ 8) (n : Int) (a : Ad) (hn : at? st n = none) :
    Calls Try.prog 34 #[.pointer (some ⟨db, 0, none⟩), .int .i64 n, .agg (adA a)] w fun e w' => e = .returned (.int .i64 132) ∧ Below w.heap.size w w' := by
  have HB := Aside0.mk (Below.refl w.heap.size w)
  go_enter Try.func34, Try.ntmps34
  go_wp2_with (first | ((with_reducible refine gate_dst (N := 5) rfl ?_); refine sh_E 5 25 (adA a) ?_; intro g hg w1 hbox hb; replace HB := sh_S HB hb; have HM := Aside0.mk (h.below hb); clear hbox hb hg) | fail)
  have hth := there_calls HM.out h8 n
  rw [hn] at hth
  refine Calls.mono hth ?_
  rintro e w' ⟨rfl, rfl⟩
  go_wp2
  go_ret
  exact ⟨rfl, HB.out⟩
theorem ddrop_fin {w0 w1 w5 : World} (hb : Below w0.heap.size w0 w1) (h : Dem w1 S db v1 v2 ls st) {lb n c i : Nat} (hv : v2 = .slice (some ⟨lb, 0, none⟩) n c) {p : Pt} {x : Sl} (hp : st[i]? = some p) (hx : ls[i]? = some x) (hb5 : Below w1.heap.size w1 w5) {A : Option Addr} {m cap : Nat} {ns : List Lo}
    (hm : m = ns.length) (hR : Kd.R k34 34 w5 w1.heap.size (fun _ => True) (.slice A m cap) ns) :
    DStepped w0 (w5.setCell ⟨lb, i, none⟩ (.slice A m cap)) S db (st.modify i fun p => { p with ls := ns }) := by
  subst hm
  have hvo : v2.ownBlock = some lb := by rw [hv]; rfl
  obtain ⟨cp, hcp⟩ := h.rowL.typed lb hvo
  have hll := h.rowL.lt lb hvo
  have h15 := hb5.size
  have hb2 := hb.size
  have hat : ∀ k, (Value.slice A ns.length cap).ownBlock = some k → w1.heap.size ≤ k := fun k hk => ((Kd.R_bound hR).1 k hk).2.1
  have hfar : ∀ k, k ≠ lb → (w5.setCell ⟨lb, i, none⟩ (.slice A ns.length cap)).heap[k]? = w5.heap[k]? := fun k hk => Below.heap_setCell w5 _ _ k hk
  have hss : (w5.setCell ⟨lb, i, none⟩ (.slice A ns.length cap)).heap.size = w5.heap.size := by simp [World.setCell]
  have hRL : RL w5 (.slice A ns.length cap) ns := RL.of hR
  have hm := dem_lset (w' := w5.setCell ⟨lb, i, none⟩ (.slice A ns.length cap)) h hv hp hx ⟨A, ns.length, cap⟩ ns ?_ ?_ ?_ ?_ ?_
  · refine ⟨_, _, _, _, hm, ?_, ?_⟩
    · intro k hk
      rcases hk with q | q
      · exact .inl q
      · have := hat k q
        exact .inr (by omega)
    · refine ⟨hb5.os.trans hb.os, hb5.tape.trans hb.tape, hb5.output.trans hb.output, by omega, fun k hk hn => ?_⟩
      exact ((hfar k (fun e => hn (e ▸ h.its.2.2.1 lb hvo))).trans (hb5.block k (by omega))).trans (hb.block k hk)
  · have h4 := (hb5.block lb hll).trans hcp
    rw [MReader.setCell_heap h4, MReader.setCell_heap hcp]
    rfl
  · exact hRL.keep (fun k hk => hfar k (by have := hat k hk; omega))
  · exact hat
  · intro k h1 h2
    exact (hfar k h2).trans (hb5.block k h1)
  · omega
set_option maxHeartbeats 4000000 in
set_option maxRecDepth 100000 in
theorem ddrop_some (h : Dem w S db v1 v2 ls st) (h8 : st.length ≤ 8) (hls : ∀ p ∈ st, p.ls.length ≤ 8) (n : Int) (a : Ad) {i : Nat} (hn : at? st n = some i) {p : Pt} (hp : st[i]? = some p) :
    Calls Try.prog 34 #[.pointer (some ⟨db, 0, none⟩), .int .i64 n, .agg (adA a)] w fun e w' =>
      ((other a p.ls).length = p.ls.length ∧ e = .returned (.int .i64 132) ∧ Below w.heap.size w w') ∨ ((other a p.ls).length ≠ p.ls.length ∧ e = .returned (.int .i64 0) ∧ DStepped w w' S db (st.modify i fun p => { p with ls := other a p.ls })) := by
  have hu25 := Try.underlying25
  have hu34 := Try.underlying34
  have HB := Aside0.mk (Below.refl w.heap.size w)
  obtain ⟨x0, x1⟩ := MBlk.c2 h.blk
  have hp8 := hls p (List.mem_of_getElem? hp)
  obtain ⟨hi, hni⟩ := at_lt hn
  obtain ⟨yl, lb, cl, hyl, hvl, hSl, lcell, lfree⟩ := datL h hi
  rw [hvl] at x1
  obtain ⟨A, cA, el, hC⟩ := RL.reads (h.like i p yl hp hyl)
  obtain ⟨y, hy⟩ : ∃ y : Int, (i : Int) = y := ⟨_, rfl⟩
  have hyi : y.toNat = i := by omega
  have hw : wrap64 (n - 1) = y := by unfold wrap64; omega
  have hwI : IntKind.i64.wrap (n - 1) = y := by rw [IntWalk.i64_in _ (by omega)]; omega
  have z1 : (0 ≤ y) = True := eq_true (by omega)
  have q1 : (y < (st.length : Int)) = True := eq_true (by omega)
  rw [el] at lcell
  have HLB := Aside0.mk (show lb < w.heap.size ∧ w.frozen? ⟨lb, i, none⟩ = false from ⟨h.lt lb hSl, lfree⟩)
  have HP := Aside0.mk hp
  have HYL := Aside0.mk hyl
  have HVL := Aside0.mk hvl
  have hth := fun W (hW : Dem W S db v1 v2 ls st) => there_calls hW h8 n
  rw [hn] at hth
  have hp8' : (p.ls.length : Int) ≤ 8 := by omega
  clear lfree hni hy hi hp hyl hvl hn el
  go_enter Try.func34, Try.ntmps34
  go_wp2_with (first | ((with_reducible refine gate_dst (N := 5) rfl ?_); refine sh_E 5 25 (adA a) ?_; intro g hg w1 hbox hb; replace HB := sh_S HB hb; have BK := Aside0.mk hbox; replace x1 := pw_cell_below hb x1; replace lcell := pw_cell_below hb lcell; replace hC := Kd.C_below hC hb; have HF := Aside0.mk ((World.frozen?_of_block (a := ⟨lb, i, none⟩) (hb.block lb HLB.out.1)).trans HLB.out.2); have HM := Aside0.mk (h.below hb); clear hbox hb hg) | fail)
  refine Calls.mono (hth _ HM.out) ?_
  rintro e w' ⟨rfl, rfl⟩
  have X1 := Aside0.mk x1
  have HL := Aside0.mk lcell
  have HC2 := Aside0.mk hC
  clear h hth x0 x1 lcell hC
  go_wp2_with fail
  go_loopg [7, 8] p.ls.length (fun kq v7 v8 w' => ∃ (k : Nat) (A1 : Option Addr) (m c1 : Nat), v7 = .slice A1 m c1 ∧ v8 = .int .i64 (k : Int) ∧ Aside0 (k + kq = p.ls.length) ∧ Aside0 (m = (other a (p.ls.take k)).length ∧ Kd.R k34 34 w' w1.heap.size (fun _ => True) (.slice A1 m c1) (other a (p.ls.take k))) ∧ Aside0 (Below w1.heap.size w1 w'))
  case atStart => exact ⟨0, none, 0, 0, rfl, rfl, ⟨by omega⟩, ⟨rfl, Kd.R_nil k34 _ _ _ _⟩, ⟨Below.refl _ _⟩⟩
  case round =>
    obtain ⟨k, A1, m, c1, rfl, rfl, HK, HR, HC⟩ := hrel
    have x1 := pw_cell_below HC.out X1.out
    have l0 := pw_cell_below HC.out HL.out
    by_cases hk : k < p.ls.length
    · obtain ⟨l, hl⟩ : ∃ l, p.ls[k]? = some l := ⟨_, List.getElem?_eq_getElem hk⟩
      obtain ⟨ad, e, z0, z1', z2, z3⟩ := at_T34 (Kd.C_below HC2.out HC.out) (k : Int) (by omega) (by omega)
      have hrd : rd_T34 p.ls (k : Int) = l := by
        unfold rd_T34
        rw [Int.toNat_natCast, List.getD_eq_getElem?_getD, hl, Option.getD_some]
      rw [hrd] at z0 z1' z2 z3
      subst e
      obtain ⟨c0, c1', c2'⟩ := MBlk.c3 (blk_below BK.out HC.out)
      have HGET := Aside0.mk hl
      obtain ⟨t, ht⟩ : ∃ t : Int, (k : Int) = t := ⟨_, rfl⟩
      rw [ht] at z0 z1' z2 z3 ⊢
      have HT := Aside0.mk ht
      have b2 : decide (t < (p.ls.length : Int)) = true := decide_eq_true (by omega)
      have p2 : (0 ≤ t) = True := eq_true (by omega)
      have q2 : (t < (p.ls.length : Int)) = True := eq_true (by omega)
      have htw : wrap64 (t + 1) = ((k + 1 : Nat) : Int) := by unfold wrap64; omega
      have HTW := Aside0.mk htw
      have HML := Aside0.mk (show m ≤ 8 from by have := other_len a (p.ls.take k); have := HR.out.1; rw [List.length_take] at *; omega)
      obtain ⟨gk, rfl⟩ : ∃ q, gk = q + 1 := ⟨gk - 1, by have := HK.out; omega⟩
      clear hl ht htw hk hrd
      go_wp2_with fail
      go_region
      go_upto_region 8 with fail
      · rename_i hq
        have hq' : eqA l.f0 a = false := by
          cases e : eqA l.f0 a with
          | false => rfl
          | true => rw [show eqA ⟨l.f0.f0, l.f0.f1, l.f0.f2⟩ ⟨a.f0, a.f1, a.f2⟩ = eqA l.f0 a from rfl, e] at hq; cases hq
        have HQ := Aside0.mk hq'
        obtain ⟨w3, hw3⟩ : ∃ w3, wr.drew = w3 := ⟨_, rfl⟩
        have HC3 := Aside0.mk (show Below w1.heap.size w1 w3 from hw3 ▸ below_drew1 HC.out)
        have HR3 := Aside0.mk (show Kd.R k34 34 w3 w1.heap.size (fun _ => True) (.slice A1 m c1) (other a (p.ls.take k)) from hw3 ▸ HR.out.2)
        rw [hw3]
        replace x1 := pw_cell_below HC3.out X1.out
        replace l0 := pw_cell_below HC3.out HL.out
        obtain ⟨ad', e', z0, z1', z2, z3⟩ := at_T34 (Kd.C_below HC2.out HC3.out) (k : Int) (by omega) (by have := (List.getElem?_eq_some_iff.1 HGET.out).1; omega)
        obtain rfl : ad = ad' := Option.some.inj e'
        have hrd : rd_T34 p.ls (k : Int) = l := by
          unfold rd_T34
          rw [Int.toNat_natCast, List.getD_eq_getElem?_getD, HGET.out, Option.getD_some]
        rw [hrd, HT.out] at z0 z1' z2 z3
        clear hw3 hq hq' hrd e' c0 c1' c2'
        go_wp2_with (first | ((with_reducible refine gate_builtin (b := .append) (xs := #[.tmp 40, .tmp 52]) rfl ?_); at_builtin; refine Kd.R_append k34 (w0 := w1) w1.heap.size rfl (.tmp 40) (.tmp 52) 31 34 (.agg #[.bool false, .int .u64 0, .int .u64 0, .int .i64 0]) 32 rfl Try.underlying31 (by kernel_rfl) rfl (by decide) (by decide) (.slice A1 m c1) (other a (p.ls.take k)) l _ (fun _ => True) (fun _ => False) rfl rfl (k34_mkM _ _ _ _) (fun _ h => h.elim) (fun _ _ => trivial) HR3.out HC3.out HC3.out.size (by have := HML.out; have := HR.out.1; omega) ?_; intro u5 w5 hR hb0 hg hat; obtain ⟨A5, c5, eu⟩ := Kd.R_slice hR; have hm5 : (other a (p.ls.take k) ++ [l]).length = m + 1 := (by rw [List.length_append, HR.out.1]; rfl); rw [hm5] at eu; subst eu; have HR5 := Aside0.mk hR; have HC5 := Aside0.mk hb0; clear hR hb0 hg hat hm5) | fail)
        go_roundg gk
        case measure => omega
        case rel =>
          have hk1 := HGET.out
          have he := other_next HGET.out HQ.out
          exact ⟨k + 1, A5, m + 1, c5, rfl, by first | rw [HTW.out] | exact congrArg _ (by have := HT.out; omega), ⟨by have := HK.out; omega⟩, ⟨by rw [he, List.length_append, ← HR.out.1]; rfl, by rw [he]; exact HR5.out⟩, HC5⟩
      · rename_i hq
        have hq' : eqA l.f0 a = true := by
          cases e : eqA l.f0 a with
          | true => rfl
          | false => rw [show eqA ⟨l.f0.f0, l.f0.f1, l.f0.f2⟩ ⟨a.f0, a.f1, a.f2⟩ = eqA l.f0 a from rfl, e] at hq; cases hq
        have HQ := Aside0.mk hq'
        go_wp2_with fail
        go_roundg gk
        case measure => omega
        case rel =>
          have he := other_skip HGET.out HQ.out
          exact ⟨k + 1, A1, m, c1, rfl, by first | rw [HTW.out] | exact congrArg _ (by have := HT.out; omega), ⟨by have := HK.out; omega⟩, ⟨by rw [he]; exact HR.out.1, by rw [he]; exact HR.out.2⟩, ⟨below_drew1 HC.out⟩⟩
    · have hlen : p.ls.take k = p.ls := List.take_of_length_le (by omega)
      have HE := Aside0.mk (show m = (other a p.ls).length ∧ Kd.R k34 34 wr w1.heap.size (fun _ => True) (.slice A1 m c1) (other a p.ls) from hlen ▸ HR.out)
      obtain ⟨t, ht⟩ : ∃ t : Int, (k : Int) = t := ⟨_, rfl⟩
      have b2 : decide (t < (p.ls.length : Int)) = false := decide_eq_false (by omega)
      rw [ht]
      have f0 := (World.frozen?_of_block (a := ⟨lb, i, none⟩) (HC.out.block lb (by have := HLB.out.1; have := HB.out.size; omega))).trans HF.out
      clear ht hk hlen
      by_cases c : m = p.ls.length
      · have HCC := Aside0.mk c
        have cb : ((m : Int) == (p.ls.length : Int)) = true := by rw [c]; exact beq_self_eq_true _
        clear c
        go_wp2
        go_ret
        exact .inl ⟨by rw [← HE.out.1]; exact HCC.out, rfl, below_then HB.out HB.out.size HC.out⟩
      · have HCC := Aside0.mk c
        have cb : ((m : Int) == (p.ls.length : Int)) = false := by rw [beq_eq_false_iff_ne]; exact fun e => c (by omega)
        clear c
        go_wp2
        go_ret
        refine .inr ⟨by rw [← HE.out.1]; exact HCC.out, rfl, ?_⟩
        rw [modify_of HP.out (fun p => { p with ls := other a p.ls }) (fun q => { q with ls := other a p.ls }) rfl]
        exact ddrop_fin HB.out HM.out HVL.out HP.out HYL.out HC.out HE.out.1 HE.out.2
theorem ddrop_calls (h : Dem w S db v1 v2 ls st) (h8 : st.length ≤ 8) (hls : ∀ p ∈ st, p.ls.length ≤ 8) (hap : ∀ p ∈ st, p.ls.Pairwise fun x y => x.f0 ≠ y.f0) (n : Int) (a : Ad) :
    Calls Try.prog 34 #[.pointer (some ⟨db, 0, none⟩), .int .i64 n, .agg (adA a)] w fun e w' => e = .returned (.int .i64 (drop st n a).2) ∧ DStepped w w' S db (drop st n a).1 := by
  cases hn : at? st n with
  | none =>
    have e : drop st n a = (st, 132) := by unfold drop; rw [hn]
    rw [e]
    exact Calls.mono (ddrop_none h h8 n a hn) (fun _ _ q => ⟨q.1, DStepped.same h q.2⟩)
  | some i =>
    obtain ⟨p, pb, c, hp, _⟩ := datP h hn
    have hl : (st[i]?.map (·.ls)).getD [] = p.ls := by rw [hp]; rfl
    cases hk : place p.ls a with
    | none =>
      have e : drop st n a = (st, 132) := by unfold drop; simp only [hn, hl, hk]
      rw [e]
      refine Calls.mono (ddrop_some h h8 hls n a hn hp) (fun _ _ q => ?_)
      rcases q with ⟨_, q1, q2⟩ | ⟨q, _⟩
      · exact ⟨q1, DStepped.same h q2⟩
      · exact absurd (by rw [other_none (place_none.1 hk)]) q
    | some k =>
      have e : drop st n a = (st.modify i fun p => { p with ls := p.ls.eraseIdx k }, 0) := by unfold drop; simp only [hn, hl, hk]
      rw [e]
      have ho := other_some (hap p (List.mem_of_getElem? hp)) hk
      have hkl := place_lt hk
      refine Calls.mono (ddrop_some h h8 hls n a hn hp) (fun _ _ q => ?_)
      rcases q with ⟨q, _⟩ | ⟨_, q1, q2⟩
      · rw [ho, List.length_eraseIdx, if_pos hkl] at q
        omega
      · rw [modify_of hp (fun p => { p with ls := other a p.ls }) (fun p => { p with ls := p.ls.eraseIdx k }) (by simp only [ho])] at q2
        exact ⟨q1, q2⟩
end
end Go.Proofs.Ytefbcigccfkkgaa.WIf
namespace Go.Proofs.Ytefbcigccfkkgaa.WIf
open Go.RowKit Go.Maps Go.WideMaps Go.Proofs.Ytefbcigccfkkgaa.PBase Go.Proofs.YtefbcigccfkkgaaW.PrintWords Go.Proofs.YtefbcigccfkkgaaW.PrintLast Go.Proofs.YtefbcigccfkkgaaW.PrintMore Go.Proofs.Ytefbcigccfkkgaa.If
attribute [local go_sem] max2_int min2_int max_two min_two
def Rng (st : St) : Prop := ∀ p ∈ st, ∀ l ∈ p.ls, AdOk l.f0 ∧ mayB l.f0 l.f1 = true
theorem may_pos {a : Ad} {bits : Int} (h : mayB a bits = true) : 1 ≤ bits := ((Pure.may_iff a bits).1 h).2.2.1
theorem dholds_calls (l : Lo) (a : Ad) (hl : AdOk l.f0 ∧ mayB l.f0 l.f1 = true) (ha : AdOk a) (W : World) : Calls Try.prog 57 #[.agg (lcs l).toArray, .agg (adA a)] W fun e w' => e = .returned (.bool (holdsB l a)) ∧ Below W.heap.size W w' := by
  obtain ⟨k, hk⟩ := (Pure.holds_ev l a hl.2 hl.1.1 hl.1.2 ha.1 ha.2).rounds
  exact crosswayref14_holds.calls k l.f0.f0 l.f0.f1 l.f0.f2 l.f1 a.f0 a.f1 a.f2 _ W hk
def dnF (a : Ad) (up : Bool) (n : Int) (o : Int × Int) (l : Lo) : Int × Int := if up = true ∧ l.f1 > o.2 ∧ holdsB l a = true then (n, l.f1) else o
def dnS (up : Bool) (n : Int) (o : Int × Int) (b : Int) : Int × Int := if up = true ∧ b > o.2 then (n, b) else o
theorem dn_fold (a : Ad) (up : Bool) (n : Int) (o : Int × Int) : ∀ (ls : List Lo) (out : Lo), ls.foldl (dnF a up n) (dnS up n o out.f1) = dnS up n o (ls.foldl (bestF a) out).f1 := by
  intro ls
  induction ls with
  | nil => intro out; rfl
  | cons l r ih =>
    intro out
    rw [List.foldl_cons, List.foldl_cons, ← ih]
    refine congrArg (fun z => r.foldl (dnF a up n) z) ?_
    unfold dnF dnS bestF
    cases up with
    | false => simp
    | true =>
      by_cases hh : holdsB l a = true
      · simp only [true_and, hh, and_true]
        by_cases h1 : out.f1 > o.2
        · rw [if_pos h1]
          by_cases h2 : l.f1 > out.f1
          · rw [if_pos h2, if_pos h2, if_pos (by omega)]
          · rw [if_neg h2, if_neg h2, if_pos h1]
        · rw [if_neg h1]
          by_cases h2 : l.f1 > out.f1
          · rw [if_pos h2]
          · rw [if_neg h2, if_neg h1, if_neg (by omega)]
      · simp only [true_and, hh, and_false, if_false]
        simp
theorem dn_near (a : Ad) (st : St) (o : Int × Int) (h0 : 0 ≤ o.2) {i : Nat} {p : Pt} (hp : st[i]? = some p) : p.ls.foldl (dnF a p.up ((i : Int) + 1)) o = nearF a st o i := by
  have h := dn_fold a p.up ((i : Int) + 1) o p.ls zeroL
  have hz : dnS p.up ((i : Int) + 1) o zeroL.f1 = o := by unfold dnS; rw [if_neg]; intro q; have := q.2; simp only [zeroL] at this; omega
  rw [hz] at h
  rw [h]
  unfold nearF dnS best
  rw [hp]
  simp only
  by_cases c : p.up = true ∧ (p.ls.foldl (bestF a) zeroL).f1 > o.2
  · rw [if_pos c, if_pos ⟨by omega, c.1, c.2⟩]
  · rw [if_neg c, if_neg (fun q => c q.2)]
theorem dnF_nn (a : Ad) (up : Bool) (n : Int) (o : Int × Int) (l : Lo) (h : 0 ≤ o.2) : 0 ≤ (dnF a up n o l).2 := by
  unfold dnF
  split
  · simp only; omega
  · exact h
theorem dnF_fold_nn (a : Ad) (up : Bool) (n : Int) : ∀ (ls : List Lo) (o : Int × Int), 0 ≤ o.2 → 0 ≤ (ls.foldl (dnF a up n) o).2 := by
  intro ls
  induction ls with
  | nil => intro o h; exact h
  | cons l r ih => intro o h; exact ih _ (dnF_nn a up n o l h)
def nearTo (a : Ad) (st : St) (i : Nat) : Int × Int := (List.range i).foldl (nearF a st) (0, 0)
theorem nearTo_succ (a : Ad) (st : St) {i : Nat} {p : Pt} (hp : st[i]? = some p) (h0 : 0 ≤ (nearTo a st i).2) : nearTo a st (i + 1) = p.ls.foldl (dnF a p.up ((i : Int) + 1)) (nearTo a st i) := by
  rw [dn_near a st _ h0 hp]
  unfold nearTo
  rw [List.range_succ, List.foldl_append]
  rfl
theorem take_fold2 {α β : Type} (f : β → α → β) (o : β) {ls : List α} {k : Nat} {l : α} (h : ls[k]? = some l) : (ls.take (k + 1)).foldl f o = f ((ls.take k).foldl f o) l := by
  rw [List.take_add_one, h, List.foldl_append]
  rfl
section
variable {w : World} {S : Nat → Prop} {db : Nat} {v1 v2 : Value} {ls : List Sl} {st : St}
set_option maxHeartbeats 4000000 in
set_option maxRecDepth 100000 in
theorem dnear_calls (h : Dem w S db v1 v2 ls st) (h8 : st.length ≤ 8) (hls : ∀ p ∈ st, p.ls.length ≤ 8) (hR : Rng st) (a : Ad) (ha : AdOk a) :
    Calls Try.prog 40 #[.pointer (some ⟨db, 0, none⟩), .agg (adA a)] w fun e w' => e = .returned (.tuple #[.int .i64 (near st a), .bool (decide (near st a > 0))]) ∧ Below w.heap.size w w' := by
  have hu25 := Try.underlying25
  have hu34 := Try.underlying34
  have HB := Aside0.mk (Below.refl w.heap.size w)
  obtain ⟨x0, x1⟩ := MBlk.c2 h.blk
  obtain ⟨A, c, e⟩ := h.rowL.slice
  rw [h.len] at e
  obtain ⟨AP, cP, eP⟩ := h.rowP.slice
  rw [List.length_map] at eP
  have HE := Aside0.mk e
  have HEP := Aside0.mk eP
  rw [e] at x1
  rw [eP] at x0
  have hhold := fun l (hl : AdOk l.f0 ∧ mayB l.f0 l.f1 = true) W => dholds_calls l a hl ha W
  go_enter Try.func40, Try.ntmps40
  go_wp2_with (first | ((with_reducible refine gate_dst (N := 3) rfl ?_); refine sh_E 3 25 (adA a) ?_; intro g hg w1 hbox hb; replace HB := sh_S HB hb; have BK := Aside0.mk hbox; have HM := Aside0.mk (h.below hb); replace x0 := pw_cell_below hb x0; replace x1 := pw_cell_below hb x1; clear hbox hb hg) | fail)
  have X0 := Aside0.mk x0
  have X1 := Aside0.mk x1
  clear h e eP x0 x1
  go_loopg [6, 7, 8] st.length (fun kq v6 v7 v8 w' => ∃ (i : Nat) (o : Int × Int), v6 = .int .i64 o.1 ∧ v7 = .int .i64 o.2 ∧ v8 = .int .i64 (i : Int) ∧ Aside0 (i + kq = st.length ∧ o = nearTo a st i ∧ 0 ≤ o.2) ∧ Aside0 (Below w1.heap.size w1 w'))
  case atStart => exact ⟨0, (0, 0), rfl, rfl, rfl, ⟨by omega, rfl, Int.le_refl _⟩, ⟨Below.refl _ _⟩⟩
  case round =>
    obtain ⟨i, o, rfl, rfl, rfl, HI, HC⟩ := hrel
    have x0 := pw_cell_below HC.out X0.out
    have x1 := pw_cell_below HC.out X1.out
    by_cases hi : i < st.length
    · obtain ⟨p, hp⟩ : ∃ p, st[i]? = some p := ⟨_, List.getElem?_eq_getElem hi⟩
      obtain ⟨y, lb, c', hy, hv, _, hcell, _⟩ := datL HM.out hi
      have e2 := HE.out.symm.trans hv
      injection e2 with e2 _ _
      subst e2
      obtain ⟨p', pb, cp', hp', hvP, _, hcellP⟩ := datP HM.out (n := (i : Int) + 1) (i := i) (by unfold at?; rw [if_neg (by omega)]; exact congrArg some (by omega))
      obtain rfl : p = p' := Option.some.inj (hp.symm.trans hp')
      have e3 := HEP.out.symm.trans hvP
      injection e3 with e3 _ _
      subst e3
      have hup := (hcellP (j := 3) (u := .bool p.up) rfl).1
      obtain ⟨A2, c2, ex, hC⟩ := RL.reads (HM.out.like i p y hp hy)
      rw [ex] at hcell
      have HL := Aside0.mk hcell
      have HUP := Aside0.mk hup
      have HC2 := Aside0.mk hC
      have hp8 := hls p (List.mem_of_getElem? hp)
      have HP := Aside0.mk hp
      have HRG := Aside0.mk (hR p (List.mem_of_getElem? hp))
      have HNX := Aside0.mk (nearTo_succ a st hp (HI.out.2.1 ▸ HI.out.2.2))
      obtain ⟨x, hx⟩ : ∃ x : Int, (i : Int) = x := ⟨_, rfl⟩
      have hxi : x.toNat = i := by omega
      rw [hx]
      have HX := Aside0.mk hx
      have b1 : decide (x < (st.length : Int)) = true := decide_eq_true (by omega)
      have p1 : (0 ≤ x) = True := eq_true (by omega)
      have q1 : (x < (st.length : Int)) = True := eq_true (by omega)
      have hn : wrap64 (x + 1) = ((i + 1 : Nat) : Int) := by unfold wrap64; omega
      have HN := Aside0.mk hn
      obtain ⟨gk0, rfl⟩ : ∃ q, gk = q + 1 := ⟨gk - 1, by have := HI.out.1; omega⟩
      have hlen : (p.ls.length : Int) ≤ 8 := by omega
      have HO := Aside0.mk HI.out.2.2
      clear hn hv hp hy hi hC ex hcell hx hp' hvP hcellP hup
      go_wp2_with fail
      go_loopg [6, 7, 9] p.ls.length (fun kq v6 v7 v9 w' => ∃ (k : Nat) (q : Int × Int), v6 = .int .i64 q.1 ∧ v7 = .int .i64 q.2 ∧ v9 = .int .i64 (k : Int) ∧ Aside0 (k + kq = p.ls.length ∧ q = (p.ls.take k).foldl (dnF a p.up ((i : Int) + 1)) o) ∧ Aside0 (Below w1.heap.size w1 w'))
      case atStart => exact ⟨0, o, rfl, rfl, rfl, ⟨by omega, rfl⟩, HC⟩
      case round =>
        clear HC x0 x1
        obtain ⟨k, q, rfl, rfl, rfl, HK, HC⟩ := hrel
        have x0 := pw_cell_below HC.out X0.out
        have x1 := pw_cell_below HC.out X1.out
        have l0 := pw_cell_below HC.out HL.out
        by_cases hk : k < p.ls.length
        · obtain ⟨l, hl⟩ : ∃ l, p.ls[k]? = some l := ⟨_, List.getElem?_eq_getElem hk⟩
          obtain ⟨ad, e, z0, z1, z2, z3⟩ := at_T34 (Kd.C_below HC2.out HC.out) (k : Int) (by omega) (by omega)
          have hrd : rd_T34 p.ls (k : Int) = l := by
            unfold rd_T34
            rw [Int.toNat_natCast, List.getD_eq_getElem?_getD, hl, Option.getD_some]
          rw [hrd] at z0 z1 z2 z3
          subst e
          have HGET := Aside0.mk hl
          have HTK := Aside0.mk (take_fold2 (dnF a p.up ((i : Int) + 1)) o hl)
          have hlr := HRG.out l (List.mem_of_getElem? hl)
          have hcall := hhold l hlr
          obtain ⟨t, ht⟩ : ∃ t : Int, (k : Int) = t := ⟨_, rfl⟩
          rw [ht] at z0 z1 z2 z3 ⊢
          have HT := Aside0.mk ht
          have b2 : decide (t < (p.ls.length : Int)) = true := decide_eq_true (by omega)
          have p2 : (0 ≤ t) = True := eq_true (by omega)
          have q2 : (t < (p.ls.length : Int)) = True := eq_true (by omega)
          have htw : wrap64 (t + 1) = ((k + 1 : Nat) : Int) := by unfold wrap64; omega
          have HTW := Aside0.mk htw
          obtain ⟨gk1, rfl⟩ : ∃ q, gk = q + 1 := ⟨gk - 1, by have := HK.out.1; omega⟩
          clear hl ht htw hk hrd hlr
          go_upto_region 10 with (first | ((with_reducible refine gate_dst (N := 10) rfl ?_); refine sh_E 10 34 (lcA zeroL) ?_; intro gl hgl w5 hbox hb5; have BL := Aside0.mk hbox; obtain ⟨d0, d1, d2, d3⟩ := MBlk.c4 hbox; obtain ⟨f0, f1, f2, f3⟩ := MBlk.f4 hbox; have HBL := Aside0.mk hb5; have GL := Aside0.mk hgl; clear hbox hb5 hgl) | fail)
          obtain ⟨w6, hw6⟩ : ∃ w6, (((w5.setCell ⟨gl, 0, none⟩ (.bool l.f0.f0)).setCell ⟨gl, 1, none⟩ (.int .u64 l.f0.f1)).setCell ⟨gl, 2, none⟩ (.int .u64 l.f0.f2)).setCell ⟨gl, 3, none⟩ (.int .i64 l.f1) = w6 := ⟨_, rfl⟩
          have hs6 := HC.out.size
          have HC6 := Aside0.mk (show Below w1.heap.size w1 w6 from hw6 ▸ below4 (below_then HC.out HC.out.size HBL.out) (by have := GL.out; omega))
          have hb6 : w6.heap[gl]? = some (.cells (lcA l) 34 (0, 0)) := hw6 ▸ put4 BL.out
          rw [hw6]
          replace x0 := pw_cell_below HC6.out X0.out
          replace x1 := pw_cell_below HC6.out X1.out
          have u0 := pw_cell_below HC6.out HUP.out
          obtain ⟨c0, c1, c2'⟩ := MBlk.c3 (blk_below BK.out HC6.out)
          obtain ⟨d0, d1, d2, d3⟩ := MBlk.c4 hb6
          clear hw6 hs6 hb6 f0 f1 f2 f3 l0 z0 z1 z2 z3 BL HBL GL
          have b3 : p.up = false ∨ (p.up = true ∧ ¬ l.f1 > q.2) ∨ (p.up = true ∧ l.f1 > q.2) := by
            cases p.up with
            | false => exact .inl rfl
            | true => by_cases z : l.f1 > q.2; exact .inr (.inr ⟨rfl, z⟩); exact .inr (.inl ⟨rfl, z⟩)
          rcases b3 with b3 | ⟨b3, b4⟩ | ⟨b3, b4⟩
          · have HB3 := Aside0.mk b3
            rw [b3] at u0
            clear b3
            go_wp2
            go_roundg gk1
            case measure => omega
            case rel => exact ⟨k + 1, q, rfl, rfl, by first | rw [HTW.out] | exact congrArg _ (by have := HT.out; omega), ⟨by have := HK.out.1; omega, by rw [HTK.out, ← HK.out.2]; unfold dnF; rw [if_neg (fun z => by have := z.1; rw [HB3.out] at this; cases this)]⟩, HC6⟩
          · have HB4 := Aside0.mk b4
            rw [b3] at u0
            have b5 : decide (l.f1 > q.2) = false := decide_eq_false b4
            clear b3
            go_wp2
            go_roundg gk1
            case measure => omega
            case rel => exact ⟨k + 1, q, rfl, rfl, by first | rw [HTW.out] | exact congrArg _ (by have := HT.out; omega), ⟨by have := HK.out.1; omega, by rw [HTK.out, ← HK.out.2]; unfold dnF; rw [if_neg (fun z => absurd z.2.1 (by have := HB4.out; omega))]⟩, HC6⟩
          · have HB4 := Aside0.mk (And.intro b3 b4)
            rw [b3] at u0
            have b5 : decide (l.f1 > q.2) = true := decide_eq_true b4
            clear b3
            go_wp2_with fail
            refine Calls.mono (hcall _) ?_
            rintro e w7 ⟨rfl, hb⟩
            have HC7 := Aside0.mk (below_then HC6.out HC6.out.size hb)
            replace d0 := pw_cell_below hb d0
            replace d1 := pw_cell_below hb d1
            replace d2 := pw_cell_below hb d2
            replace d3 := pw_cell_below hb d3
            clear hb
            cases hh : holdsB l a with
            | false =>
              have HH := Aside0.mk hh
              clear hh
              go_wp2
              go_roundg gk1
              case measure => omega
              case rel => exact ⟨k + 1, q, rfl, rfl, by first | rw [HTW.out] | exact congrArg _ (by have := HT.out; omega), ⟨by have := HK.out.1; omega, by rw [HTK.out, ← HK.out.2]; unfold dnF; rw [if_neg (fun z => by have := z.2.2; rw [HH.out] at this; cases this)]⟩, HC7⟩
            | true =>
              have HH := Aside0.mk hh
              clear hh
              go_wp2
              go_roundg gk1
              case measure => omega
              case rel => exact ⟨k + 1, ((i : Int) + 1, l.f1), by first | exact congrArg _ (by rw [HN.out]; omega) | trace_state, rfl, by first | rw [HTW.out] | exact congrArg _ (by have := HT.out; omega), ⟨by have := HK.out.1; omega, by rw [HTK.out, ← HK.out.2]; unfold dnF; rw [if_pos ⟨HB4.out.1, HB4.out.2, HH.out⟩]⟩, HC7⟩
        · obtain ⟨t, ht⟩ : ∃ t : Int, (k : Int) = t := ⟨_, rfl⟩
          have b2 : decide (t < (p.ls.length : Int)) = false := decide_eq_false (by omega)
          have hq : q = nearTo a st (i + 1) := by
            rw [HNX.out, ← HI.out.2.1]
            have := HK.out.2
            rw [List.take_of_length_le (by omega)] at this
            exact this
          have HQ := Aside0.mk hq
          have HQN := Aside0.mk (show 0 ≤ q.2 by rw [HK.out.2]; exact dnF_fold_nn _ _ _ _ _ HO.out)
          rw [ht]
          clear ht hk hq
          go_wp2
          go_roundg gk0
          case measure => omega
          case rel => exact ⟨i + 1, q, rfl, rfl, by first | rw [HN.out] | exact congrArg _ (by have := HX.out; omega), ⟨by have := HI.out.1; omega, HQ.out, HQN.out⟩, HC⟩
    · have hv : near st a = o.1 := by
        have e := HI.out.2.1
        rw [show i = st.length by have := HI.out.1; omega] at e
        rw [e]; rfl
      have HV := Aside0.mk hv
      obtain ⟨x, hx⟩ : ∃ x : Int, (i : Int) = x := ⟨_, rfl⟩
      have b1 : decide (x < (st.length : Int)) = false := decide_eq_false (by omega)
      rw [hx]
      clear hx hi hv
      go_wp2
      go_ret2
      exact ⟨by rw [HV.out]; rfl, below_then HB.out HB.out.size HC.out⟩
end
end Go.Proofs.Ytefbcigccfkkgaa.WIf
namespace Go.Proofs.Ytefbcigccfkkgaa.WIf
open Go.RowKit Go.Maps Go.WideMaps Go.Proofs.Ytefbcigccfkkgaa.PBase Go.Proofs.YtefbcigccfkkgaaW.PrintWords Go.Proofs.YtefbcigccfkkgaaW.PrintLast Go.Proofs.YtefbcigccfkkgaaW.PrintMore Go.Proofs.Ytefbcigccfkkgaa.If
attribute [local go_sem] max2_int min2_int max_two min_two
theorem rvalid_some (a : Ad) : crosswayref03_Valid.f a.f0 a.f1 a.f2 = some (validB a) := by
  unfold crosswayref03_Valid.f validB
  cases h : a.f0 with
  | true => rfl
  | false =>
    rw [if_neg (by decide)]
    by_cases c : a.f1 = 0
    · rw [if_pos c]; simp [c]
    · rw [if_neg c]; simp [c]
def Bst (ls : List Lo) (a : Ad) (k : Nat) (b : Int) : Prop :=
  (b = -1 ∧ (ls.take k).foldl (bestF a) zeroL = zeroL) ∨ ∃ (j : Nat) (o : Lo), b = j ∧ ls[j]? = some o ∧ 1 ≤ o.f1 ∧ (ls.take k).foldl (bestF a) zeroL = o
theorem bst_no {ls : List Lo} {a : Ad} {k : Nat} {b : Int} {l : Lo} (h : Bst ls a k b) (hl : ls[k]? = some l) (hh : holdsB l a = false) : Bst ls a (k + 1) b := by
  unfold Bst
  rw [take_fold2 (bestF a) zeroL hl]
  have e : ∀ o, bestF a o l = o := fun o => by unfold bestF; rw [if_neg (fun z => by rw [hh] at z; cases z.2)]
  rw [e]
  exact h
theorem bst_first {ls : List Lo} {a : Ad} {k : Nat} {l : Lo} (h : (ls.take k).foldl (bestF a) zeroL = zeroL) (hl : ls[k]? = some l) (h1 : 1 ≤ l.f1) (hh : holdsB l a = true) : Bst ls a (k + 1) k := by
  refine .inr ⟨k, l, rfl, hl, h1, ?_⟩
  rw [take_fold2 (bestF a) zeroL hl, h]
  unfold bestF
  rw [if_pos ⟨by simp only [zeroL]; omega, hh⟩]
theorem bst_more {ls : List Lo} {a : Ad} {k : Nat} {l o : Lo} (h : (ls.take k).foldl (bestF a) zeroL = o) (hl : ls[k]? = some l) (h1 : 1 ≤ l.f1) (hh : holdsB l a = true) (hg : l.f1 > o.f1) : Bst ls a (k + 1) k := by
  refine .inr ⟨k, l, rfl, hl, h1, ?_⟩
  rw [take_fold2 (bestF a) zeroL hl, h]
  unfold bestF
  rw [if_pos ⟨hg, hh⟩]
theorem bst_less {ls : List Lo} {a : Ad} {k j : Nat} {l o : Lo} (h : (ls.take k).foldl (bestF a) zeroL = o) (hj : ls[j]? = some o) (h1 : 1 ≤ o.f1) (hl : ls[k]? = some l) (hg : ¬ l.f1 > o.f1) : Bst ls a (k + 1) j := by
  refine .inr ⟨j, o, rfl, hj, h1, ?_⟩
  rw [take_fold2 (bestF a) zeroL hl, h]
  unfold bestF
  rw [if_neg (fun z => hg z.1)]
section
variable {w : World} {S : Nat → Prop} {db : Nat} {v1 v2 : Value} {ls : List Sl} {st : St}
set_option maxHeartbeats 1000000 in
set_option maxRecDepth 100000 in
theorem dsource_none (h : Dem w S db v1 v2 ls st) (h8 : st.length ≤ 8) (n : Int) (a : Ad) (hn : at? st n = none) :
    Calls Try.prog 37 #[.pointer (some ⟨db, 0, none⟩), .int .i64 n, .agg (adA a)] w fun e w' => e = .returned (.tuple #[.agg (adA zeroA), .bool false]) ∧ Below w.heap.size w w' := by
  have hu25 := Try.underlying25
  have HB := Aside0.mk (Below.refl w.heap.size w)
  have hval := fun W => crosswayref03_Valid.calls a.f0 a.f1 a.f2 (validB a) W (rvalid_some a)
  have hth := fun W (hW : Dem W S db v1 v2 ls st) => there_calls hW h8 n
  rw [hn] at hth
  go_enter Try.func37, Try.ntmps37
  go_wp2_with (first | ((with_reducible refine gate_dst (N := 5) rfl ?_); refine sh_E 5 25 (adA a) ?_; intro g5 hg w1 hbox hb; replace HB := sh_S HB hb; have HM := Aside0.mk (h.below hb); have BK5 := Aside0.mk hbox; obtain ⟨d0, d1, d2⟩ := MBlk.c3 hbox; clear hbox hb hg) | ((with_reducible refine gate_dst (N := 6) rfl ?_); refine sh_E 6 25 (adA zeroA) ?_; intro g6 hg w2 hbox hb; have GE6 := sh_G HB hg; replace HB := sh_S HB hb; replace HM := Aside0.mk (HM.out.below hb); have BK6 := Aside0.mk hbox; replace d0 := pw_cell_below hb d0; replace d1 := pw_cell_below hb d1; replace d2 := pw_cell_below hb d2; clear hbox hb hg) | fail)
  refine Calls.mono (hval _) ?_
  rintro e w3 ⟨rfl, hb⟩
  replace HB := sh_S HB hb
  replace HM := Aside0.mk (HM.out.below hb)
  replace BK6 := Aside0.mk (blk_below BK6.out hb)
  obtain ⟨c0, c1, c2⟩ := MBlk.c3 BK6.out
  obtain ⟨f0, f1, f2⟩ := MBlk.f3 BK6.out
  clear hb d0 d1 d2
  go_wp2_with fail
  refine Calls.mono (hth _ HM.out) ?_
  rintro e w' ⟨rfl, rfl⟩
  go_wp2
  refine bodyPost_ret (results_ct rfl _ _ g6 25 (adA zeroA) (0, 0) _ rfl (put3 BK6.out) hu25 rfl (by kernel_rfl)) rfl ?_
  exact ⟨rfl, below3 HB.out GE6.out⟩
set_option maxHeartbeats 1000000 in
set_option maxRecDepth 100000 in
theorem dsource_not (h : Dem w S db v1 v2 ls st) (h8 : st.length ≤ 8) (n : Int) (a : Ad) {i : Nat} (hn : at? st n = some i) (hva : validB a = false) :
    Calls Try.prog 37 #[.pointer (some ⟨db, 0, none⟩), .int .i64 n, .agg (adA a)] w fun e w' => e = .returned (.tuple #[.agg (adA zeroA), .bool false]) ∧ Below w.heap.size w w' := by
  have hu25 := Try.underlying25
  have HB := Aside0.mk (Below.refl w.heap.size w)
  have hval := fun W => crosswayref03_Valid.calls a.f0 a.f1 a.f2 (validB a) W (rvalid_some a)
  rw [hva] at hval
  have hth := fun W (hW : Dem W S db v1 v2 ls st) => there_calls hW h8 n
  rw [hn] at hth
  go_enter Try.func37, Try.ntmps37
  go_wp2_with (first | ((with_reducible refine gate_dst (N := 5) rfl ?_); refine sh_E 5 25 (adA a) ?_; intro g5 hg w1 hbox hb; replace HB := sh_S HB hb; have HM := Aside0.mk (h.below hb); have BK5 := Aside0.mk hbox; obtain ⟨d0, d1, d2⟩ := MBlk.c3 hbox; clear hbox hb hg) | ((with_reducible refine gate_dst (N := 6) rfl ?_); refine sh_E 6 25 (adA zeroA) ?_; intro g6 hg w2 hbox hb; have GE6 := sh_G HB hg; replace HB := sh_S HB hb; replace HM := Aside0.mk (HM.out.below hb); have BK6 := Aside0.mk hbox; replace d0 := pw_cell_below hb d0; replace d1 := pw_cell_below hb d1; replace d2 := pw_cell_below hb d2; clear hbox hb hg) | fail)
  refine Calls.mono (hval _) ?_
  rintro e w3 ⟨rfl, hb⟩
  replace HB := sh_S HB hb
  replace HM := Aside0.mk (HM.out.below hb)
  replace BK6 := Aside0.mk (blk_below BK6.out hb)
  obtain ⟨c0, c1, c2⟩ := MBlk.c3 BK6.out
  obtain ⟨f0, f1, f2⟩ := MBlk.f3 BK6.out
  clear hb d0 d1 d2
  go_wp2_with fail
  refine Calls.mono (hth _ HM.out) ?_
  rintro e w' ⟨rfl, rfl⟩
  go_wp2
  refine bodyPost_ret (results_ct rfl _ _ g6 25 (adA zeroA) (0, 0) _ rfl (put3 BK6.out) hu25 rfl (by kernel_rfl)) rfl ?_
  exact ⟨rfl, below3 HB.out GE6.out⟩
end
end Go.Proofs.Ytefbcigccfkkgaa.WIf
