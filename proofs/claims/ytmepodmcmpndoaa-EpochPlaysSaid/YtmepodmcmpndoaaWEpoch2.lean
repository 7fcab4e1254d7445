/-
  The calls of an epoch in memory: those that lock it. Conditions: those of each theorem.
-/
import Derived.Test.YtmepodmcmpndoaaWEpoch1
import Derived.Conc.MuLone
set_option linter.unusedVariables false
set_option linter.unusedSimpArgs false
namespace Go.Proofs.Ytmepodmcmpndoaa.WEp
open Go.RowKit Go.Proofs.Ytmepodmcmpndoaa.PBase Go.Proofs.YtmepodmcmpndoaaW.PrintWords Go.Proofs.YtmepodmcmpndoaaW.PrintLast Go.Proofs.YtmepodmcmpndoaaW.PrintMore Go.Proofs.Ytmepodmcmpndoaa.Ep Go.Proofs.Ytmepodmcmpndoaa.EpM Go.MuLone
attribute [local go_sem] max2_int min2_int max_two min_two
section
variable {w : World} {B g a r s : Nat} {m : Int} {st : St}
theorem lock_any (h : Mem 56 w B g a r s 0 st) : Calls Try.prog 25 #[.pointer (some ⟨g, 0, none⟩)] w fun e w' => e = .returned (.tuple #[]) ∧ Mem 56 w' B g a r s 1 st ∧ Fr (fun k => k = g) w w' := by
  obtain ⟨ca, cr, cs, ⟨x0, _⟩, ⟨f0, _⟩, _⟩ := h.cells
  refine (lock_free Try.muLib ⟨g, 0, none⟩ w x0 f0).mono ?_
  rintro e w' ⟨rfl, rfl⟩
  exact ⟨rfl, h.lock 1, Fr.set _ _ _ _⟩
theorem unlock_any (u : FrameMode) (h : Mem 56 w B g a r s 1 st) : CallsD Try.prog 26 #[.pointer (some ⟨g, 0, none⟩)] u w fun e u' w' => u' = u ∧ e = .returned (.tuple #[]) ∧ Mem 56 w' B g a r s 0 st ∧ Fr (fun k => k = g) w w' := by
  obtain ⟨ca, cr, cs, ⟨x0, _⟩, ⟨f0, _⟩, _⟩ := h.cells
  refine (unlock_deferred Try.muLib ⟨g, 0, none⟩ u w x0 f0).mono ?_
  rintro e u' w' ⟨rfl, rfl, rfl⟩
  exact ⟨rfl, rfl, h.lock 0, Fr.set _ _ _ _⟩
theorem isB_in (i : Int) : isB st.rd i true = st.isIn i := by
  unfold isB St.isIn
  rw [decide_eq_decide]
  simp
theorem isB_out (i : Int) : isB st.rd i false = st.isOut i := by
  unfold isB St.isOut
  rw [decide_eq_decide]
  simp
theorem fr2 {X : Nat → Prop} {w w1 w2 : World} (h : Fr X w w1) (h2 : Fr X w1 w2) : Fr X w w2 := h.trans h2 (fun k hk => .inl hk)
theorem frI {w w1 : World} (h : Fr (fun k => k = g) w w1) : Fr (Its g a r s) w w1 := ⟨h.os, h.tape, h.output, h.size, fun k hk hn => h.block k hk (fun e => hn (.inl e))⟩
/-- A row that was appended to: where it is now. -/
theorem app_form {W w1 : World} {B a n c l : Nat} {v1 : Value} {xs : List Value} {u : Value} (ho : w1.ownsRow B 3 1 v1 l xs) (hat : v1.ownBlock = u.ownBlock ∨ ∃ b, v1.ownBlock = some b ∧ W.heap.size ≤ b) (hl : l ≠ 0) (hu : u = .slice (some ⟨a, 0, none⟩) n c) :
    ∃ a1 c1, v1 = .slice (some ⟨a1, 0, none⟩) l c1 ∧ (a1 = a ∨ W.heap.size ≤ a1) := by
  subst hu
  rcases ho.2 with ⟨rfl, e⟩ | ⟨b, cap, cur, rfl, _⟩
  · exact absurd e hl
  · refine ⟨b, cap, rfl, ?_⟩
    rcases hat with e | ⟨b', e, hle⟩
    · exact .inl (by simpa [Value.ownBlock] using e)
    · obtain rfl : b = b' := by simpa [Value.ownBlock] using e
      exact .inr hle
theorem frD {X : Nat → Prop} {w w1 : World} (h : Fr X w w1) (n : Nat) : Fr X w (w1.drewN n) := ⟨h.os, h.tape, h.output, h.size, h.block⟩
set_option maxHeartbeats 1000000 in
set_option maxRecDepth 100000 in
theorem current_calls (h : Mem 56 w B g a r s 0 st) (hk : Ok st) (hbig : st.all.length ≤ 100000) :
    Calls Try.prog 19 #[.pointer (some ⟨g, 0, none⟩)] w fun e w' => e = .returned (.int .i64 st.cur) ∧ Mem 56 w' B g a r s 0 st ∧ Fr (fun k => k = g) w w' := by
  have HM := Aside0.mk h
  have hl := hk.len
  clear h hk
  go_enter_defers Try.func19, Try.ntmps19
  go_wp2_with fail
  refine (lock_any HM.out).mono ?_
  rintro e w1 ⟨rfl, hm, hf⟩
  obtain ⟨ca, cr, cs, ⟨x0, x2, x3, x4, x5⟩, ⟨f0, f2, f3⟩, ha, hr, hs⟩ := hm.cells
  have HM1 := Aside0.mk hm
  have HF := Aside0.mk hf
  have hc := (ha.cell (st.all.length - 1) (by omega)).1
  have HCUR := Aside0.mk (show st.all.getD (st.all.length - 1) 0 = st.cur from rfl)
  obtain ⟨x, hx⟩ : ∃ x, st.all.getD (st.all.length - 1) 0 = x := ⟨_, rfl⟩
  obtain ⟨L, hL⟩ : ∃ L, st.all.length = L := ⟨_, rfl⟩
  rw [hx] at hc HCUR
  rw [hL] at hc x2 hl hbig
  obtain ⟨j, hj⟩ : ∃ j : Nat, L - 1 = j := ⟨_, rfl⟩
  have e1 : (L : Int) - 1 = (j : Int) := by omega
  have e2 : IntKind.i64.wrap ((L : Int) - 1) = (j : Int) := by rw [e1]; exact IntWalk.i64_in _ (by omega)
  have hjl : (j : Int) < (L : Int) := by omega
  rw [hj] at hc
  clear hm hf ha hr hs x0 x3 x4 x5 f0 f2 f3 hx hL hj e1
  go_wp2_with fail
  go_quiet (fail)
  go_wp2_with fail
  refine leaves_cons (f := 26) (args := #[.pointer (some ⟨g, 0, none⟩)]) (by simp) (by simp [go_sem]) ?_
  refine (unlock_any .returning (HM1.out.drewN _)).mono ?_
  rintro e u' w'' ⟨rfl, rfl, hm, hf⟩
  exact ⟨_, results_tmp rfl _ _ _, by rw [← HCUR.out]; rfl, hm, fr2 (frD HF.out _) hf⟩
set_option maxHeartbeats 1000000 in
set_option maxRecDepth 100000 in
theorem seen_calls (h : Mem 56 w B g a r s 0 st) (hk : Ok st) (i : Int) :
    Calls Try.prog 22 #[.pointer (some ⟨g, 0, none⟩), .int .i64 i] w fun e w' => e = .returned (.tuple #[.int .i64 (st.sees i), .bool (st.isIn i)]) ∧ Mem 56 w' B g a r s 0 st ∧ Fr (fun k => k = g) w w' := by
  have HM := Aside0.mk h
  have h16 := hk.rd16
  have hsl := hk.seen
  clear h hk
  by_cases hin : st.isIn i = true
  · have hs : st.sees i = st.seen.getD (i - 1).toNat 0 := by unfold St.sees; rw [if_pos hin]
    obtain ⟨q1, q2, _⟩ := isIn_iff.1 hin
    have HIN := Aside0.mk hin
    rw [hin, hs]
    obtain ⟨ji, hji⟩ : ∃ ji, i - 1 = ji := ⟨_, rfl⟩
    rw [hji]
    obtain ⟨x, hx⟩ : ∃ x, st.seen.getD ji.toNat 0 = x := ⟨_, rfl⟩
    rw [hx]
    have HJ := Aside0.mk hji
    have HX := Aside0.mk hx
    clear hin hs hji hx
    go_enter_defers Try.func22, Try.ntmps22
    go_wp2_with fail
    refine (lock_any HM.out).mono ?_
    rintro e w1 ⟨rfl, hm, hf⟩
    have HM1 := Aside0.mk hm
    have HF := Aside0.mk hf
    clear hm hf
    go_wp2_with fail
    refine (is_calls HM1.out h16 i true).mono ?_
    rintro e w2 ⟨rfl, rfl⟩
    rw [isB_in, HIN.out]
    obtain ⟨ca, cr, cs, ⟨x0, x2, x3, x4, x5⟩, ⟨f0, f2, f3⟩, ha, hr, hs⟩ := HM1.out.cells
    rw [← hsl] at q2
    have hji := HJ.out
    have hc := (hs.cell ji.toNat (by omega)).1
    rw [HX.out] at hc
    have p0 : 0 ≤ ji := by omega
    have p1 : ji < (st.seen.length : Int) := by omega
    have p2 : ji ≤ 15 := by omega
    clear ha hr hs x0 x2 x3 x4 f0 f2 f3 hsl
    go_wp2
    refine leaves_cons (f := 26) (args := #[.pointer (some ⟨g, 0, none⟩)]) (by simp) (by simp [go_sem]) ?_
    refine (unlock_any .returning HM1.out).mono ?_
    rintro e u' w'' ⟨rfl, rfl, hm, hf⟩
    exact ⟨_, results_tmp2 rfl _ _ _, rfl, hm, fr2 HF.out hf⟩
  · have hs : st.sees i = 0 := by unfold St.sees; rw [if_neg hin]
    have hin2 : st.isIn i = false := by simpa using hin
    have HIN := Aside0.mk hin2
    rw [hin2, hs]
    clear hin hin2 hs
    go_enter_defers Try.func22, Try.ntmps22
    go_wp2_with fail
    refine (lock_any HM.out).mono ?_
    rintro e w1 ⟨rfl, hm, hf⟩
    have HM1 := Aside0.mk hm
    have HF := Aside0.mk hf
    clear hm hf
    go_wp2_with fail
    refine (is_calls HM1.out h16 i true).mono ?_
    rintro e w2 ⟨rfl, rfl⟩
    rw [isB_in, HIN.out]
    go_wp2
    refine leaves_cons (f := 26) (args := #[.pointer (some ⟨g, 0, none⟩)]) (by simp) (by simp [go_sem]) ?_
    refine (unlock_any .returning HM1.out).mono ?_
    rintro e u' w'' ⟨rfl, rfl, hm, hf⟩
    exact ⟨_, results_tmp2 rfl _ _ _, rfl, hm, fr2 HF.out hf⟩
set_option maxHeartbeats 1000000 in
set_option maxRecDepth 100000 in
theorem publish_calls (h : Mem 56 w B g a r s 0 st) (hB : B ≤ w.heap.size) (hk : Ok st) (hbig : st.given + st.all.length ≤ 90000) (v : Int) :
    Calls Try.prog 11 #[.pointer (some ⟨g, 0, none⟩), .int .i64 v] w fun e w' => ∃ a' q cq, e = .returned (.slice (some ⟨q, 0, none⟩) (st.pubs v).length cq) ∧ Row w' w.heap.size q (st.pubs v).length cq (st.pubs v) ∧
      Mem 56 w' B g a' r s 0 (st.publish v) ∧ w.heap.size ≤ a' ∧ q ≠ a' ∧ Fr (Its g a r s) w w' := by
  have HM := Aside0.mk h
  have HK := Aside0.mk hk
  have hl := hk.len
  have hgv := hk.given
  clear h hk
  go_enter_defers Try.func11, Try.ntmps11
  go_wp2_with fail
  refine (lock_any HM.out).mono ?_
  rintro e w1 ⟨rfl, hm, hf⟩
  obtain ⟨ca, cr, cs, ⟨x0, x2, x3, x4, x5⟩, ⟨f0, f2, f3⟩, ha, hr, hs⟩ := hm.cells
  have HM1 := Aside0.mk hm
  have HF := Aside0.mk hf
  have HA := Aside0.mk ha
  have hsz := hf.size
  have hB1 : B ≤ w1.heap.size := by omega
  clear hm hf ha hr hs x0 x3 x4 x5 f0 f3
  have HBW := Aside0.mk (show Below B w w1 from HF.out.below (Below.refl _ _) hB (fun k hk => by rw [hk]; exact HM.out.bg))
  have hgl := HM1.out.glt
  have hga := HM1.out.ne.1
  go_wp2_with (at_builtin; refine print_append_num (w0 := w) B rfl _ _ 33 3 .i64 8 rfl Try.underlying33 (by kernel_rfl) (by decide) (.slice (some ⟨a, 0, none⟩) st.all.length ca) st.all v rfl rfl ?c1 ?c2 ?c3 ?c4 ?_; (case c1 => exact HA.out); (case c2 => exact HBW.out); (case c3 => exact hB1); (case c4 => omega); intro v1 w2 ho hb hg hat; obtain ⟨a1, c1, hv, ha1⟩ := app_form ho hat (by simp) rfl; subst hv; have HO := Aside0.mk ho; have HAT := Aside0.mk ha1; have HG := Aside0.mk hg; have y2 := (World.cell?_of_block (a := ⟨g, 2, none⟩) (hg.block g hgl (by simp [Value.ownBlock]; omega))).trans x2; have z2 := (World.frozen?_of_block (a := ⟨g, 2, none⟩) (hg.block g hgl (by simp [Value.ownBlock]; omega))).trans f2; clear ho hb hg hat ha1)
  have hm2 := HM1.out.grow HG.out HO.out HAT.out
  rw [show (st.all ++ [v]).length = st.all.length + 1 by simp] at hm2
  have HM2 := Aside0.mk (show Mem 56 _ B g a1 r s 1 (st.add v) from hm2)
  have HF2 := Aside0.mk (show Fr (Its g a r s) w1 (w2.setCell ⟨g, 2, none⟩ (.slice (some ⟨a1, 0, none⟩) (st.all.length + 1) c1)) from (Fr.of_grown (X := Its g a r s) HG.out (fun k hk => .inr (.inl (by simpa [Value.ownBlock] using hk.symm)))).trans (Fr.set _ _ _ _) (fun k hk => .inl (.inl hk)))
  generalize w2.setCell ⟨g, 2, none⟩ (.slice (some ⟨a1, 0, none⟩) (st.all.length + 1) c1) = w3 at *
  refine (collect_calls HM2.out (HK.out.add v) (by show st.given + ((st.all ++ [v]).length : Int) ≤ 100000; simp; omega)).mono ?_
  rintro e w4 ⟨a', q, cq, rfl, hq, hm, hle, hqa, hf⟩
  have HQ := Aside0.mk (show Row w4 w3.heap.size q (st.pubs v).length cq (st.pubs v) from hq)
  have HM4 := Aside0.mk (show Mem 56 w4 B g a' r s 1 (st.publish v) from hm)
  have HF4 := Aside0.mk hf
  have hs3 := HF2.out.size
  clear hq hm hf
  go_wp2_with fail
  refine leaves_cons (f := 26) (args := #[.pointer (some ⟨g, 0, none⟩)]) (by simp) (by simp [go_sem]) ?_
  refine (unlock_any .returning HM4.out).mono ?_
  rintro e u' w'' ⟨rfl, rfl, hm, hf⟩
  have hqb := HQ.out.base
  have hgl := HM.out.glt
  exact ⟨_, results_tmp rfl _ _ _, a', q, cq, rfl, hf.own (HQ.out.reb (by omega)) (fun k e x => by obtain rfl : q = k := (by simpa [Value.ownBlock] using e); omega), hm, by omega, hqa, fr2 (fr2 (frI HF.out) HF2.out) (fr2 (frI HF4.out) (frI hf))⟩
set_option maxHeartbeats 1000000 in
set_option maxRecDepth 100000 in
theorem enter_calls (h : Mem 56 w B g a r s 0 st) (hk : Ok st) (hbig : st.given + st.all.length ≤ 90000) (i : Int) :
    Calls Try.prog 14 #[.pointer (some ⟨g, 0, none⟩), .int .i64 i] w fun e w' => (∃ v x, e = .returned (.tuple #[.int .i64 v, .int .i64 x]) ∧ ((st.isOut i = true ∧ v = st.cur ∧ x = 0) ∨ (st.isOut i = false ∧ v = 0 ∧ x = 120))) ∧ Mem 56 w' B g a r s 0 (st.enter i) ∧ Fr (Its g a r s) w w' := by
  have HM := Aside0.mk h
  have h16 := hk.rd16
  have hsl := hk.seen
  have hl := hk.len
  have hgv := hk.given
  clear h hk
  by_cases hin : st.isOut i = true
  · have hs : st.enter i = st.let_ i := by unfold St.enter; rw [if_pos hin]
    obtain ⟨q1, q2, _⟩ := isOut_iff.1 hin
    have HIN := Aside0.mk hin
    rw [hs]
    clear hin hs
    have HW := Aside0.mk hsl
    obtain ⟨ji, hji⟩ : ∃ ji, i - 1 = ji := ⟨_, rfl⟩
    have HJ := Aside0.mk hji
    go_enter_defers Try.func14, Try.ntmps14
    go_wp2_with fail
    refine (lock_any HM.out).mono ?_
    rintro e w1 ⟨rfl, hm, hf⟩
    have HM1 := Aside0.mk hm
    have HF := Aside0.mk hf
    clear hm hf
    go_wp2_with fail
    refine (is_calls HM1.out h16 i false).mono ?_
    rintro e w2 ⟨rfl, rfl⟩
    rw [isB_out, HIN.out]
    obtain ⟨ca, cr, cs, ⟨x0, x2, x3, x4, x5⟩, ⟨f0, f2, f3⟩, ha, hr, hs⟩ := HM1.out.cells
    have p0 : 0 ≤ ji := by omega
    have p1 : ji < (st.rd.length : Int) := by omega
    have p2 : ji ≤ 15 := by omega
    have p3 : ji < (st.seen.length : Int) := by omega
    have hc := hr.cell ji.toNat (by omega)
    obtain ⟨c1, d1⟩ := hc
    obtain ⟨N, hN⟩ : ∃ N, st.given + (st.all.length : Int) - 1 = N := ⟨_, rfl⟩
    have e1 : IntKind.i64.wrap (st.given + (st.all.length : Int)) = st.given + (st.all.length : Int) := IntWalk.i64_in _ (by omega)
    have e2 : IntKind.i64.wrap (st.given + (st.all.length : Int) - 1) = N := by rw [IntWalk.i64_in _ (by omega)]; exact hN
    have e3 : IntKind.i64.wrap ji = ji := IntWalk.i64_in _ (by omega)
    have HN := Aside0.mk hN
    have HA := Aside0.mk ha
    have HR := Aside0.mk hr
    have HS := Aside0.mk hs
    have g0 : (0 ≤ ji) = True := eq_true p0
    have g1 : (ji < (st.rd.length : Int)) = True := eq_true p1
    have g2 : (ji < (st.seen.length : Int)) = True := eq_true p3
    clear ha hr hs x0 x5 f0 f2 f3 hsl hN
    go_wp2_with fail
    go_still_tail 18, (by kernel_rfl)
    change wpList _ _ _ _ _ w1.drew
    have c2 : w1.drew.cell? ⟨r, ji.toNat, none⟩ = some (.int .i64 (st.rd.getD ji.toNat 0)) := c1
    have d2 : w1.drew.frozen? ⟨r, ji.toNat, none⟩ = false := d1
    have hm3 := (HM1.out.drewN 1).setRd ji.toNat N
    have hf3 : Fr (Its g a r s) w (w1.setCell ⟨r, ji.toNat, none⟩ (.int .i64 N)).drew := fr2 (frI HF.out) ((Fr.drewN (X := Its g a r s) w1 1).trans (Fr.set _ r _ _) (fun k hk => .inl (.inr (.inr (.inl hk)))))
    go_upto_region 6 with (fail)
    clear c1 d1 c2 d2 x2 x3 x4 e1 e2
    obtain ⟨w3, hw3⟩ : ∃ w3, (w1.setCell ⟨r, ji.toNat, none⟩ (.int .i64 N)).drew = w3 := ⟨_, rfl⟩
    have hm3' : Mem 56 w3 B g a r s 1 { st with rd := st.rd.set ji.toNat N } := by rw [← hw3]; exact hm3
    rw [hw3] at hf3 ⊢
    clear hw3 hm3
    have HM3 := Aside0.mk hm3'
    have HF3 := Aside0.mk hf3
    obtain ⟨ca, cr, cs, ⟨x0, x2, x3, x4, x5⟩, ⟨f0, f2, f3⟩, ha, hr, hs⟩ := hm3'.cells
    obtain ⟨x, hx⟩ : ∃ x, st.all.getD (st.all.length - 1) 0 = x := ⟨_, rfl⟩
    obtain ⟨j, hj⟩ : ∃ j : Nat, st.all.length - 1 = j := ⟨_, rfl⟩
    have cA := (ha.cell (st.all.length - 1) (by show _ < st.all.length; omega)).1
    rw [show ({ st with rd := st.rd.set ji.toNat N } : St).all.getD (st.all.length - 1) 0 = x from hx, hj] at cA
    obtain ⟨cS, dS⟩ := hs.cell ji.toNat (by show _ < st.seen.length; omega)
    have HX := Aside0.mk hx
    have e4 : IntKind.i64.wrap ((st.all.length : Int) - 1) = (j : Int) := by rw [show (st.all.length : Int) - 1 = (j : Int) by omega]; exact IntWalk.i64_in _ (by omega)
    have g3 : ((j : Int) < (st.all.length : Int)) = True := eq_true (by omega)
    have g4 : (0 ≤ (j : Int)) = True := eq_true (by omega)
    clear ha hr hs x0 x3 x4 f0 f2 f3 hf3 hm3' hx hj
    simp only at x2 x5 cS
    go_wp2_with fail
    go_still_tail 19, (by kernel_rfl)
    change wpList _ _ _ _ _ w3.drew
    have c2 : w3.drew.cell? ⟨s, ji.toNat, none⟩ = some (.int .i64 (st.seen.getD ji.toNat 0)) := cS
    have d2 : w3.drew.frozen? ⟨s, ji.toNat, none⟩ = false := dS
    have hm4 := (HM3.out.drewN 1).setSeen ji.toNat x
    have hf4 : Fr (Its g a r s) w (w3.setCell ⟨s, ji.toNat, none⟩ (.int .i64 x)).drew := fr2 HF3.out ((Fr.drewN (X := Its g a r s) w3 1).trans (Fr.set _ s _ _) (fun k hk => .inl (.inr (.inr (.inr hk)))))
    go_upto_region 7 with (fail)
    clear cS dS c2 d2 x2 x5 e4 cA
    obtain ⟨w5, hw5⟩ : ∃ w5, (w3.setCell ⟨s, ji.toNat, none⟩ (.int .i64 x)).drew = w5 := ⟨_, rfl⟩
    have hm5 : Mem 56 w5 B g a r s 1 { st with rd := st.rd.set ji.toNat N, seen := st.seen.set ji.toNat x } := by rw [← hw5]; exact hm4
    rw [hw5] at hf4 ⊢
    clear hw5 hm4
    have HM5 := Aside0.mk hm5
    have HF5 := Aside0.mk hf4
    obtain ⟨ca, cr, cs, ⟨x0, x2, x3, x4, x5⟩, ⟨f0, f2, f3⟩, ha, hr, hs⟩ := hm5.cells
    have cS := (hs.cell ji.toNat (by show _ < (st.seen.set _ _).length; rw [List.length_set]; omega)).1
    rw [show ({ st with rd := st.rd.set ji.toNat N, seen := st.seen.set ji.toNat x } : St).seen.getD ji.toNat 0 = x from getD_set_eq (by omega) x] at cS
    rw [show ({ st with rd := st.rd.set ji.toNat N, seen := st.seen.set ji.toNat x } : St).seen.length = st.seen.length from List.length_set] at x5
    clear ha hr hs x0 x2 x3 x4 f0 f2 f3 hf4 hm5
    go_wp2
    refine leaves_cons (f := 26) (args := #[.pointer (some ⟨g, 0, none⟩)]) (by simp) (by simp [go_sem]) ?_
    refine (unlock_any .returning HM5.out).mono ?_
    rintro e u' w'' ⟨rfl, rfl, hm, hf⟩
    have hx : x = st.cur := HX.out.symm
    have he : ({ st with rd := st.rd.set ji.toNat N, seen := st.seen.set ji.toNat x } : St) = st.let_ i := by
      unfold St.let_ St.new
      rw [HJ.out, HN.out, ← hx]
    rw [he] at hm
    exact ⟨_, results_tmp2 rfl _ _ _, ⟨x, 0, rfl, .inl ⟨HIN.out, hx, rfl⟩⟩, hm, fr2 HF5.out (frI hf)⟩
  · have hs : st.enter i = st := by unfold St.enter; rw [if_neg hin]
    have hin2 : st.isOut i = false := by simpa using hin
    have HIN := Aside0.mk hin2
    rw [hs]
    clear hin hin2 hs
    go_enter_defers Try.func14, Try.ntmps14
    go_wp2_with fail
    refine (lock_any HM.out).mono ?_
    rintro e w1 ⟨rfl, hm, hf⟩
    have HM1 := Aside0.mk hm
    have HF := Aside0.mk hf
    clear hm hf
    go_wp2_with fail
    refine (is_calls HM1.out h16 i false).mono ?_
    rintro e w2 ⟨rfl, rfl⟩
    rw [isB_out, HIN.out]
    go_wp2
    refine leaves_cons (f := 26) (args := #[.pointer (some ⟨g, 0, none⟩)]) (by simp) (by simp [go_sem]) ?_
    refine (unlock_any .returning HM1.out).mono ?_
    rintro e u' w'' ⟨rfl, rfl, hm, hf⟩
    exact ⟨_, results_tmp2 rfl _ _ _, ⟨0, 120, rfl, .inr ⟨HIN.out, rfl, rfl⟩⟩, hm, fr2 (frI HF.out) (frI hf)⟩
set_option maxHeartbeats 1000000 in
set_option maxRecDepth 100000 in
theorem leave_calls (h : Mem 56 w B g a r s 0 st) (hk : Ok st) (hbig : st.given + st.all.length ≤ 90000) (i : Int) :
    Calls Try.prog 16 #[.pointer (some ⟨g, 0, none⟩), .int .i64 i] w fun e w' => ∃ a', (∃ V x, e = .returned (.tuple #[V, .int .i64 x]) ∧ ((st.isIn i = true ∧ x = 0 ∧ w.heap.size ≤ a' ∧ ∃ q cq, V = .slice (some ⟨q, 0, none⟩) (st.leaves i).length cq ∧ Row w' w.heap.size q (st.leaves i).length cq (st.leaves i) ∧ q ≠ a') ∨
      (st.isIn i = false ∧ x = 120 ∧ a' = a ∧ V = .slice none 0 0 ∧ st.leaves i = []))) ∧ Mem 56 w' B g a' r s 0 (st.leave i) ∧ Fr (Its g a r s) w w' := by
  have HM := Aside0.mk h
  have HK := Aside0.mk hk
  have h16 := hk.rd16
  have hl := hk.len
  have hgv := hk.given
  clear h hk
  by_cases hin : st.isIn i = true
  · have hs : st.leave i = (st.out i).swept := by unfold St.leave; rw [if_pos hin]
    have hs2 : st.leaves i = (st.out i).back := by unfold St.leaves; rw [if_pos hin]
    obtain ⟨q1, q2, _⟩ := isIn_iff.1 hin
    have HIN := Aside0.mk hin
    rw [hs, hs2]
    clear hin hs hs2
    obtain ⟨ji, hji⟩ : ∃ ji, i - 1 = ji := ⟨_, rfl⟩
    have HJ := Aside0.mk hji
    go_enter_defers Try.func16, Try.ntmps16
    go_wp2_with fail
    refine (lock_any HM.out).mono ?_
    rintro e w1 ⟨rfl, hm, hf⟩
    have HM1 := Aside0.mk hm
    have HF := Aside0.mk hf
    clear hm hf
    go_wp2_with fail
    refine (is_calls HM1.out h16 i true).mono ?_
    rintro e w2 ⟨rfl, rfl⟩
    rw [isB_in, HIN.out]
    obtain ⟨ca, cr, cs, ⟨x0, x2, x3, x4, x5⟩, ⟨f0, f2, f3⟩, ha, hr, hs⟩ := HM1.out.cells
    have p0 : 0 ≤ ji := by omega
    have p1 : ji < (st.rd.length : Int) := by omega
    have p2 : ji ≤ 15 := by omega
    obtain ⟨c1, d1⟩ := hr.cell ji.toNat (by omega)
    have hm3 := HM1.out.setRd ji.toNat (-1)
    have hf3 : Fr (Its g a r s) w (w1.setCell ⟨r, ji.toNat, none⟩ (.int .i64 (-1))) := fr2 (frI HF.out) ((Fr.refl (Its g a r s) w1).trans (Fr.set _ r _ _) (fun k hk => .inl (.inr (.inr (.inl hk)))))
    clear ha hr hs x0 x2 x3 x5 f0 f2 f3
    go_wp2_with fail
    obtain ⟨w3, hw3⟩ : ∃ w3, w1.setCell ⟨r, ji.toNat, none⟩ (.int .i64 (-1)) = w3 := ⟨_, rfl⟩
    rw [hw3] at hm3 hf3 ⊢
    have HM3 := Aside0.mk (show Mem 56 w3 B g a r s 1 (st.out i) from by unfold St.out; rw [hji]; exact hm3)
    have HF3 := Aside0.mk hf3
    clear hw3 hm3 c1 d1 x4 hf3
    refine (collect_calls HM3.out (HK.out.out i) (by show st.given + (st.all.length : Int) ≤ 100000; omega)).mono ?_
    rintro e w4 ⟨a', q, cq, rfl, hq, hm, hle, hqa, hf⟩
    have HQ := Aside0.mk hq
    have HM4 := Aside0.mk hm
    have HF4 := Aside0.mk hf
    have hs3 := HF3.out.size
    clear hq hm hf
    go_wp2_with fail
    refine leaves_cons (f := 26) (args := #[.pointer (some ⟨g, 0, none⟩)]) (by simp) (by simp [go_sem]) ?_
    refine (unlock_any .returning HM4.out).mono ?_
    rintro e u' w'' ⟨rfl, rfl, hm, hf⟩
    have hqb := HQ.out.base
    have hgl := HM.out.glt
    exact ⟨_, results_tmp2 rfl _ _ _, a', ⟨_, 0, rfl, .inl ⟨HIN.out, rfl, by omega, q, cq, rfl, hf.own (HQ.out.reb (by omega)) (fun k e x => by obtain rfl : q = k := (by simpa [Value.ownBlock] using e); omega), hqa⟩⟩, hm, fr2 HF3.out (fr2 (frI HF4.out) (frI hf))⟩
  · have hs : st.leave i = st := by unfold St.leave; rw [if_neg hin]
    have hs2 : st.leaves i = [] := by unfold St.leaves; rw [if_neg hin]
    have hin2 : st.isIn i = false := by simpa using hin
    have HIN := Aside0.mk hin2
    rw [hs, hs2]
    clear hin hin2 hs hs2
    go_enter_defers Try.func16, Try.ntmps16
    go_wp2_with fail
    refine (lock_any HM.out).mono ?_
    rintro e w1 ⟨rfl, hm, hf⟩
    have HM1 := Aside0.mk hm
    have HF := Aside0.mk hf
    clear hm hf
    go_wp2_with fail
    refine (is_calls HM1.out h16 i true).mono ?_
    rintro e w2 ⟨rfl, rfl⟩
    rw [isB_in, HIN.out]
    go_wp2
    refine leaves_cons (f := 26) (args := #[.pointer (some ⟨g, 0, none⟩)]) (by simp) (by simp [go_sem]) ?_
    refine (unlock_any .returning HM1.out).mono ?_
    rintro e u' w'' ⟨rfl, rfl, hm, hf⟩
    exact ⟨_, results_tmp2 rfl _ _ _, a, ⟨_, 120, rfl, .inr ⟨HIN.out, rfl, rfl, rfl, by first | exact True.intro | exact rfl⟩⟩, hm, fr2 (frI HF.out) (frI hf)⟩
set_option maxHeartbeats 1000000 in
set_option maxRecDepth 100000 in
theorem waiting_calls (h : Mem 56 w B g a r s 0 st) (hk : Ok st) (hbig : st.all.length ≤ 90000) :
    Calls Try.prog 18 #[.pointer (some ⟨g, 0, none⟩)] w fun e w' => ∃ q cq, e = .returned (.slice (some ⟨q, 0, none⟩) st.wait.length cq) ∧ Row w' w.heap.size q st.wait.length cq st.wait ∧ Mem 56 w' B g a r s 0 st ∧ Fr (fun k => k = g) w w' := by
  have HM := Aside0.mk h
  have hl := hk.len
  have hwl := wait_length hk
  clear h hk
  obtain ⟨n, hn⟩ : ∃ n, st.wait.length = n := ⟨_, rfl⟩
  rw [hn] at hwl ⊢
  obtain ⟨L, hL⟩ : ∃ L, st.all.length = L := ⟨_, rfl⟩
  rw [hL] at hwl hl hbig
  have hwd : st.wait = st.all.take n := by unfold St.wait; rw [hL, show L - 1 = n by omega]
  rw [hwd]
  have HL := Aside0.mk hL
  have HWL := Aside0.mk hwl
  have hnL : n ≤ L := by omega
  have hnb : n ≤ 90000 := by omega
  clear hn hwd hL
  go_enter_defers Try.func18, Try.ntmps18
  go_wp2_with fail
  refine (lock_any HM.out).mono ?_
  rintro e w1 ⟨rfl, hm, hf⟩
  obtain ⟨ca, cr, cs, ⟨x0, x2, x3, x4, x5⟩, ⟨f0, f2, f3⟩, ha, hr, hs⟩ := hm.cells
  have HM1 := Aside0.mk hm
  have HF := Aside0.mk hf
  rw [HL.out] at ha x2
  have HA := Aside0.mk ha
  have e1 : IntKind.i64.wrap ((L : Int) - 1) = (n : Int) := by rw [← hwl]; exact IntWalk.i64_in _ (by omega)
  have hcl := ha.le
  clear hm hf ha hr hs x0 x3 x4 x5 f0 f2 f3 hwl
  have g0 : (0 ≤ (n : Int)) = True := eq_true (by omega)
  have g1 : ((n : Int) ≤ (ca : Int)) = True := eq_true (by omega)
  go_wp2_with fail
  go_still_tail 11, (by kernel_rfl)
  change wpList _ _ _ _ _ w1.drew
  go_wp2_with fail
  refine (clone_calls ⟨a, 0, none⟩ n ca (st.all.take n) _ (((row_reads HA.out).take_ n hnL).below (below_drew (Below.refl _ _))) (by omega)).mono ?_
  rintro e w2 ⟨q, cq, rfl, hq, hb⟩
  have HB1 := Aside0.mk (show Below w1.heap.size w1 w2 from ⟨hb.os, hb.tape, hb.output, hb.size, hb.block⟩)
  have HQ := Aside0.mk (show Row w2 w1.heap.size q n cq (st.all.take n) from hq)
  clear hq hb
  go_wp2_with fail
  refine leaves_cons (f := 26) (args := #[.pointer (some ⟨g, 0, none⟩)]) (by simp) (by simp [go_sem]) ?_
  refine (unlock_any .returning (HM1.out.keepBelow HB1.out)).mono ?_
  rintro e u' w'' ⟨rfl, rfl, hm, hf⟩
  have hqb := HQ.out.base
  have hgl := HM.out.glt
  have hs3 := HF.out.size
  exact ⟨_, results_tmp rfl _ _ _, q, cq, rfl, hf.own (HQ.out.reb (by omega)) (fun k e x => by obtain rfl : q = k := (by simpa [Value.ownBlock] using e); omega), hm, fr2 (fr2 HF.out (Fr.of_below HB1.out)) hf⟩
end
end Go.Proofs.Ytmepodmcmpndoaa.WEp
