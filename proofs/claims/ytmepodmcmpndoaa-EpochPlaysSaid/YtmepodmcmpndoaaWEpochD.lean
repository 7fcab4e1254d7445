/-
  The calls of the document's epoch in memory: who enters, what is told, a new one. Conditions: those of each theorem.
-/
import Derived.Test.YtmepodmcmpndoaaWEpochC
set_option linter.unusedVariables false
set_option linter.unusedSimpArgs false
namespace Go.Proofs.Ytmepodmcmpndoaa.WEp
open Go.RowKit Go.Proofs.Ytmepodmcmpndoaa.PBase Go.Proofs.YtmepodmcmpndoaaW.PrintWords Go.Proofs.YtmepodmcmpndoaaW.PrintLast Go.Proofs.YtmepodmcmpndoaaW.PrintMore Go.Proofs.Ytmepodmcmpndoaa.Ep Go.Proofs.Ytmepodmcmpndoaa.EpM Go.MuLone
section
variable {w : World} {B g a b i : Nat} {H : List Int} {st : St}
set_option maxHeartbeats 1000000 in
set_option maxRecDepth 100000 in
theorem rseen_calls (h : RB w B g a b i H st) (bo : Both H st) (r : Int) :
    Calls Try.prog 23 #[.pointer (some ⟨g, 0, none⟩), .int .i64 r] w fun e w' => e = .returned (.tuple #[.int .i64 (st.sees r), .bool (st.isIn r)]) ∧ Drawn0 w w' := by
  have HBO := Aside0.mk bo
  obtain ⟨ca, cb, ci, ⟨x0, x1, x2⟩, ⟨f0, f1, f2⟩, hA, hG, hI⟩ := h.cells
  have h16 := bo.ok.rd16
  clear h bo hG x1 f0 f1 f2
  by_cases r1 : r < 1
  · have hin : st.isIn r = false := decide_eq_false (by omega)
    rw [show st.sees r = 0 by unfold St.sees; rw [if_neg (by rw [hin]; decide)], hin]
    clear hin hI hA
    go_enter Try.func23, Try.ntmps23
    go_wp2
    go_ret2
    exact ⟨rfl, Drawn0.refl _⟩
  · have r1' : 1 ≤ r := by omega
    by_cases r2 : r ≤ (st.rd.length : Int)
    · obtain ⟨ji, hji⟩ : ∃ ji, r - 1 = ji := ⟨_, rfl⟩
      have p0 : 0 ≤ ji := by omega
      have p1 : ji < (st.rd.length : Int) := by omega
      have p2 : ji ≤ 15 := by omega
      obtain ⟨hc, hfz⟩ := hI.cell ji.toNat (by omega)
      obtain ⟨x, hx⟩ : ∃ x, st.rd.getD ji.toNat 0 = x := ⟨_, rfl⟩
      rw [hx] at hc
      have hxr := HBO.out.ok.range x (by rw [← hx]; exact getD_mem (by omega))
      by_cases hneg : x < 0
      · have hin : st.isIn r = false := by
          unfold St.isIn; rw [hji, hx]; exact decide_eq_false (fun q => by rcases hxr with z | z; exact q.2.2 z; have := HBO.out.ok.given; omega)
        rw [show st.sees r = 0 by unfold St.sees; rw [if_neg (by rw [hin]; decide)], hin]
        clear hin hI hx hxr hfz hA
        go_enter Try.func23, Try.ntmps23
        go_wp2
        go_ret2
        exact ⟨rfl, Drawn0.refl _⟩
      · have hin : st.isIn r = true := by
          unfold St.isIn; rw [hji, hx]; exact decide_eq_true ⟨r1', r2, by omega⟩
        have hsee := HBO.out.sees hin
        rw [hji, hx] at hsee
        have hxl : x < (H.length : Int) := by have := HBO.out.len; rcases hxr with z | z <;> omega
        have hcx := (hA.cell x.toNat (by omega)).1
        rw [hin, hsee]
        obtain ⟨v, hv⟩ : ∃ v, H.getD x.toNat 0 = v := ⟨_, rfl⟩
        rw [hv] at hcx ⊢
        have hx0 : 0 ≤ x := by omega
        have e3 : IntKind.i64.wrap ji = ji := IntWalk.i64_in _ (by omega)
        clear hin hI hx hxr hfz hA hsee hv
        go_enter Try.func23, Try.ntmps23
        go_wp2_with fail
        go_quiet (fail)
        go_wp2_with fail
        go_ret2
        exact ⟨rfl, ⟨_, rfl⟩⟩
    · have hin : st.isIn r = false := decide_eq_false (fun q => r2 q.2.1)
      rw [show st.sees r = 0 by unfold St.sees; rw [if_neg (by rw [hin]; decide)], hin]
      have r3 : (st.rd.length : Int) < r := by omega
      clear hin hI hA
      go_enter Try.func23, Try.ntmps23
      go_wp2
      go_ret2
      exact ⟨rfl, Drawn0.refl _⟩
set_option maxHeartbeats 2000000 in
set_option maxRecDepth 100000 in
theorem renter_calls (h : RB w B g a b i H st) (bo : Both H st) (hbig : H.length ≤ 900) (r : Int) :
    Calls Try.prog 15 #[.pointer (some ⟨g, 0, none⟩), .int .i64 r] w fun e w' => (∃ v x, e = .returned (.tuple #[.int .i64 v, .int .i64 x]) ∧ ((st.isOut r = true ∧ v = st.cur ∧ x = 0) ∨ (st.isOut r = false ∧ v = 0 ∧ x = 120))) ∧ RB w' B g a b i H (st.enter r) ∧ Fr (Its g a b i) w w' := by
  have HM := Aside0.mk h
  have HBO := Aside0.mk bo
  obtain ⟨ca, cb, ci, ⟨x0, x1, x2⟩, ⟨f0, f1, f2⟩, hA, hG, hI⟩ := h.cells
  have h16 := bo.ok.rd16
  have hlen := bo.big
  have hl1 := bo.ok.len
  have hgv := bo.ok.given
  have hb1 : 1 ≤ H.length := by omega
  clear h bo hG x1 f0 f1 f2
  by_cases r1 : r < 1
  · have hin : st.isOut r = false := decide_eq_false (by omega)
    rw [show st.enter r = st by unfold St.enter; rw [if_neg (by rw [hin]; decide)]]
    have HIN := Aside0.mk hin
    clear hin hI hA
    go_enter Try.func15, Try.ntmps15
    go_wp2
    go_ret2
    exact ⟨⟨0, 120, rfl, .inr ⟨HIN.out, rfl, rfl⟩⟩, HM.out, Fr.refl _ _⟩
  · have r1' : 1 ≤ r := by omega
    by_cases r2 : r ≤ (st.rd.length : Int)
    · obtain ⟨ji, hji⟩ : ∃ ji, r - 1 = ji := ⟨_, rfl⟩
      have p0 : 0 ≤ ji := by omega
      have p1 : ji < (st.rd.length : Int) := by omega
      have p2 : ji ≤ 15 := by omega
      obtain ⟨hc, hfz⟩ := hI.cell ji.toNat (by omega)
      obtain ⟨x, hx⟩ : ∃ x, st.rd.getD ji.toNat 0 = x := ⟨_, rfl⟩
      rw [hx] at hc
      have hxr := HBO.out.ok.range x (by rw [← hx]; exact getD_mem (by omega))
      by_cases hpos : 0 ≤ x
      · have hin : st.isOut r = false := by
          unfold St.isOut; rw [hji, hx]; exact decide_eq_false (fun q => by have := q.2.2; omega)
        rw [show st.enter r = st by unfold St.enter; rw [if_neg (by rw [hin]; decide)]]
        have HIN := Aside0.mk hin
        clear hin hI hx hxr hfz hA
        go_enter Try.func15, Try.ntmps15
        go_wp2
        go_ret2
        exact ⟨⟨0, 120, rfl, .inr ⟨HIN.out, rfl, rfl⟩⟩, HM.out, Fr.refl _ _⟩
      · have hin : st.isOut r = true := by
          unfold St.isOut; rw [hji, hx]; exact decide_eq_true ⟨r1', r2, by rcases hxr with z | z; exact z; omega⟩
        have HIN := Aside0.mk hin
        have hle : st.enter r = st.let_ r := by unfold St.enter; rw [if_pos hin]
        rw [hle]
        obtain ⟨L, hL⟩ : ∃ L, H.length = L := ⟨_, rfl⟩
        obtain ⟨N, hN⟩ : ∃ N : Nat, L - 1 = N := ⟨_, rfl⟩
        have hcur := HBO.out.cur
        rw [hL, hN] at hcur
        have hcN := (hA.cell N (by omega)).1
        rw [← hcur] at hcN
        have e2 : IntKind.i64.wrap ((L : Int) - 1) = (N : Int) := by rw [show (L : Int) - 1 = (N : Int) by omega]; exact IntWalk.i64_in _ (by omega)
        have e3 : IntKind.i64.wrap ji = ji := IntWalk.i64_in _ (by omega)
        have hm3 := (HM.out.drewN 1).setI ji.toNat (N : Int)
        have hrd : st.rd.set ji.toNat (N : Int) = (st.let_ r).rd := by
          unfold St.let_; rw [hji]; congr 1; have := HBO.out.len; omega
        rw [hrd] at hm3
        have hNL : (N : Int) < (L : Int) := by omega
        have g0 : (0 ≤ ji) = True := eq_true p0
        have g1 : (ji < (st.rd.length : Int)) = True := eq_true p1
        obtain ⟨c, hcc⟩ : ∃ c, st.cur = c := ⟨_, rfl⟩
        rw [hcc] at hcN
        have HCC := Aside0.mk hcc
        rw [hL] at x0
        have HLN := Aside0.mk (And.intro hL hN)
        clear hin hI hx hxr hle hcur hrd hA hL hN hcc
        go_enter Try.func15, Try.ntmps15
        go_wp2_with fail
        go_still_tail 13, (by kernel_rfl)
        change wpList _ _ _ _ _ w.drew
        have c2 : w.drew.cell? ⟨i, ji.toNat, none⟩ = some (.int .i64 x) := hc
        have d2 : w.drew.frozen? ⟨i, ji.toNat, none⟩ = false := hfz
        have hf3 : Fr (Its g a b i) w (w.setCell ⟨i, ji.toNat, none⟩ (.int .i64 (N : Int))).drew := (Fr.drewN (X := Its g a b i) w 1).trans (Fr.set _ i _ _) (fun k hk => .inl (.inr (.inr (.inr hk))))
        go_upto_region 4 with (fail)
        obtain ⟨w3, hw3⟩ : ∃ w3, (w.setCell ⟨i, ji.toNat, none⟩ (.int .i64 (N : Int))).drew = w3 := ⟨_, rfl⟩
        have hm4 : RMem w3 B g a b i H (givenOf st.given.toNat H.length) (st.let_ r).rd := by rw [← hw3]; exact hm3
        rw [hw3] at hf3 ⊢
        have HM4 := Aside0.mk hm4
        have HF3 := Aside0.mk hf3
        clear hw3 hm3 hc hfz x2 x0 hf3 c2 d2 hcN
        obtain ⟨ca, cb, ci, ⟨x0, _⟩, _, hA, _⟩ := hm4.cells
        have hlen := HBO.out.len
        obtain ⟨hLL, hLN⟩ := HLN.out
        have hcN := (hA.cell N (by omega)).1
        have hcur := HBO.out.cur
        rw [hLL, hLN, HCC.out] at hcur
        rw [← hcur] at hcN
        rw [hLL] at x0
        clear hA hm4 hLL hLN hcur hlen
        go_wp2_with fail
        go_quiet (fail)
        go_wp2_with fail
        go_ret2
        exact ⟨⟨c, 0, rfl, .inl ⟨HIN.out, HCC.out.symm, rfl⟩⟩, HM4.out.drewN _, frD HF3.out _⟩
    · have hin : st.isOut r = false := decide_eq_false (fun q => r2 q.2.1)
      rw [show st.enter r = st by unfold St.enter; rw [if_neg (by rw [hin]; decide)]]
      have HIN := Aside0.mk hin
      have r3 : (st.rd.length : Int) < r := by omega
      clear hin hI hA
      go_enter Try.func15, Try.ntmps15
      go_wp2
      go_ret2
      exact ⟨⟨0, 120, rfl, .inr ⟨HIN.out, rfl, rfl⟩⟩, HM.out, Fr.refl _ _⟩
set_option maxHeartbeats 2000000 in
set_option maxRecDepth 100000 in
theorem rwaiting_calls (h : RB w B g a b i H st) (bo : Both H st) (hbig : H.length ≤ 900) :
    Calls Try.prog 21 #[.pointer (some ⟨g, 0, none⟩)] w fun e w' => ∃ V, e = .returned V ∧ w'.ownsRow w.heap.size 3 1 V st.wait.length (nums .i64 st.wait) ∧ Below w.heap.size w w' := by
  have HM := Aside0.mk h
  have HWT := Aside0.mk bo.wait
  have hlen := bo.big
  have hl1 := bo.ok.len
  have hgv := bo.ok.given
  obtain ⟨n0, hn0⟩ : ∃ n0, st.given.toNat = n0 := ⟨_, rfl⟩
  rw [hn0] at HWT
  obtain ⟨m, hm⟩ : ∃ m, H.length = m := ⟨_, rfl⟩
  rw [hm] at HWT
  have HH := Aside0.mk hm
  have HN0 := Aside0.mk hn0
  have hm1 : 1 ≤ m := by omega
  have hm2 : m ≤ 900 := by omega
  have hnm : n0 + 1 ≤ m := by omega
  obtain ⟨W, hW⟩ : ∃ W, st.wait = W := ⟨_, rfl⟩
  rw [hW] at HWT ⊢
  obtain ⟨ca, cb, ci, ⟨x0, x1, x2⟩, _, hA, hG, hI⟩ := h.cells
  rw [givenOf_length] at x1 hG
  rw [hm] at x0 x1 hA hG
  rw [hn0] at hG
  have HA := Aside0.mk hA
  have HG := Aside0.mk hG
  clear h bo hlen hl1 hgv hn0 hm hW hA hG hI x2 hbig
  go_enter Try.func21, Try.ntmps21
  go_wp2_with fail
  go_loopg [3, 4] m (fun kq v3 v4 w' => ∃ k : Nat, v4 = .int .i64 (k : Int) ∧ Aside0 (k + kq = m ∧ k + 1 ≤ m) ∧ Aside0 (w'.ownsRow w.heap.size 3 1 v3 ((H.take k).drop n0).length (nums .i64 ((H.take k).drop n0))) ∧ Aside0 (Below w.heap.size w w'))
  case atStart => exact ⟨0, rfl, ⟨by omega, by omega⟩, ⟨by rw [show (H.take 0).drop n0 = [] by simp]; exact own_nil _ _ _ _⟩, ⟨Below.refl _ _⟩⟩
  case round =>
    obtain ⟨k, rfl, HK, HV, HB⟩ := hrel
    have y0 := pw_cell_below HB.out x0
    have y1 := pw_cell_below HB.out x1
    have hkm : k ≤ m := by have := HK.out; omega
    by_cases hlt : k + 1 < m
    · have hlt2 : (k : Int) + 1 < (m : Int) := by omega
      have hkm2 : (k : Int) < (m : Int) := by omega
      have hg1 := pw_cell_below HB.out (HG.out.cell k (by omega)).1
      rw [givenOf_get _ (by omega)] at hg1
      have HLK := Aside0.mk hlt
      clear hlt
      by_cases hkn : k < n0
      · rw [decide_eq_true hkn] at hg1
        have HU := Aside0.mk (show (H.take (k + 1)).drop n0 = (H.take k).drop n0 by rw [List.drop_eq_nil_of_le (by rw [List.length_take]; omega), List.drop_eq_nil_of_le (by rw [List.length_take]; omega)])
        clear hkn
        go_wp2_with fail
        go_roundg (gk - 1)
        case measure => have := HK.out; have := HLK.out; omega
        case rel => exact ⟨k + 1, by go_num, ⟨by have := HK.out; have := HLK.out; omega⟩, ⟨by rw [HU.out]; exact HV.out⟩, HB⟩
      · rw [decide_eq_false hkn] at hg1
        have hca := pw_cell_below HB.out (HA.out.cell k (by have := HLK.out; omega)).1
        obtain ⟨y, hy⟩ : ∃ y, H.getD k 0 = y := ⟨_, rfl⟩
        rw [hy] at hca
        have HL := Aside0.mk (show (H.take k).drop n0 ++ [y] = (H.take (k + 1)).drop n0 by rw [← hy]; exact (take_drop_snoc (by omega) (by rw [HH.out]; have := HLK.out; omega)).symm)
        have hlen9 := Aside0.mk (show ((H.take k).drop n0).length ≤ 1000 by rw [List.length_drop, List.length_take, HH.out]; omega)
        clear hkn hy
        go_wp2_with (at_builtin; refine print_append_num (w0 := w) w.heap.size rfl _ _ 33 3 .i64 8 rfl Try.underlying33 (by kernel_rfl) (by decide) u3 ((H.take k).drop n0) y rfl rfl ?c1 ?c2 ?c3 ?c4 ?_; (case c1 => exact HV.out); (case c2 => exact HB.out); (case c3 => exact HB.out.size); (case c4 => have h9 := hlen9.out; omega); intro v1 w4 ho hb hg hat; have HO := Aside0.mk ho; have HB4 := Aside0.mk hb; clear ho hb hg hat)
        have HV4 := Aside0.mk (show w4.ownsRow w.heap.size 3 1 v1 ((H.take (k + 1)).drop n0).length (nums .i64 ((H.take (k + 1)).drop n0)) from by rw [← HL.out]; exact HO.out)
        clear HO hg1 hca y0 y1
        go_wp2_with fail
        go_roundg (gk - 1)
        case measure => have := HK.out; have := HLK.out; omega
        case rel => exact ⟨k + 1, by go_num, ⟨by have := HK.out; have := HLK.out; omega⟩, HV4, HB4⟩
    · have hge : ¬ ((k : Int) + 1 < (m : Int)) := by omega
      have hu : k = m - 1 := by have := HK.out; omega
      have hv := HV.out
      rw [hu, ← HWT.out] at hv
      have HV2 := Aside0.mk hv
      clear hlt hu hv
      go_wp2_with fail
      go_ret
      exact ⟨_, rfl, HV2.out, HB.out⟩
set_option maxHeartbeats 1000000 in
set_option maxRecDepth 100000 in
theorem rnew_bad (n v : Int) (w : World) (h : n < 1 ∨ 16 < n) : Calls Try.prog 10 #[.int .i64 n, .int .i64 v] w fun e w' => e = .returned (.tuple #[.pointer none, .int .i64 1]) ∧ w = w' := by
  rcases h with h | h
  · go_enter Try.func10, Try.ntmps10
    go_wp2
    go_ret2
    exact ⟨rfl, rfl⟩
  · have h2 : ¬ n < 1 := by omega
    go_enter Try.func10, Try.ntmps10
    go_wp2
    go_ret2
    exact ⟨rfl, rfl⟩
end
/-- The block of an epoch that is being made, and its readers so far. -/
structure Making (w : World) (B g a b : Nat) (v : Int) (V : Value) (k : Nat) : Prop where mk ::
  blk : w.heap[g]? = some (.cells #[.slice (some ⟨a, 0, none⟩) 1 1, .slice (some ⟨b, 0, none⟩) 1 1, V] 59 (0, 0))
  ra : Row w B a 1 1 [v]
  rb : RowB w B b 1 1 [false]
  ri : w.ownsRow B 3 1 V k (nums .i64 (List.replicate k (-1)))
  bg : B ≤ g
  ne : a ≠ g ∧ b ≠ g ∧ a ≠ b ∧ (∀ q, V.ownBlock = some q → q ≠ g ∧ q ≠ a ∧ q ≠ b)
theorem own_rebB {w : World} {B B' b : Nat} (h : RowB w B b 1 1 [false]) (hb : B' ≤ b) : RowB w B' b (givenOf 0 1).length 1 (givenOf 0 1) := RowB.reb h hb
theorem own_form {w : World} {B e n : Nat} {v : Value} {xs : List Value} (h : w.ownsRow B e 1 v n xs) (hn : n ≠ 0) : ∃ q c, v = .slice (some ⟨q, 0, none⟩) n c := by
  rcases h.2 with ⟨_, e⟩ | ⟨q, cap, cur, rfl, _⟩
  · exact absurd e hn
  · exact ⟨q, cap, rfl⟩
section
variable {w w1 : World} {B g a b k q c : Nat} {v : Int} {V : Value}
theorem Making.glt (h : Making w B g a b v V k) : g < w.heap.size := (Array.getElem?_eq_some_iff.1 h.blk).1
theorem Making.cell (h : Making w B g a b v V k) : w.cell? ⟨g, 2, none⟩ = some V ∧ w.frozen? ⟨g, 2, none⟩ = false := by
  have h1 := h.blk
  exact ⟨by simp [World.cell?, h1], by simp [World.frozen?, h1]⟩
theorem Making.more (h : Making w B g a b v V k) (hg : w.grownBy w1 V.ownBlock) (ho : w1.ownsRow B 3 1 (.slice (some ⟨q, 0, none⟩) (k + 1) c) (k + 1) (nums .i64 (List.replicate (k + 1) (-1)))) (hat : V.ownBlock = some q ∨ w.heap.size ≤ q) :
    Making (w1.setCell ⟨g, 2, none⟩ (.slice (some ⟨q, 0, none⟩) (k + 1) c)) B g a b v (.slice (some ⟨q, 0, none⟩) (k + 1) c) (k + 1) := by
  have hgl := h.glt
  have hal := h.ra.lt
  have hbl := h.rb.lt
  obtain ⟨h1, h2, h3, h4, h5, n1, n2, n3, n4⟩ := h
  have m1 : q ≠ g := by rcases hat with e | e; exact (n4 q e).1; omega
  have m2 : q ≠ a := by rcases hat with e | e; exact (n4 q e).2.1; omega
  have m3 : q ≠ b := by rcases hat with e | e; exact (n4 q e).2.2; omega
  have k1 := (hg.block g hgl (fun e => (n4 g e.symm).1 rfl)).trans h1
  have k2 : Row w1 B a 1 1 [v] := own_other h2 hg (.inr (fun e => (n4 a e.symm).2.1 rfl))
  have k3 : RowB w1 B b 1 1 [false] := own_other h3 hg (.inr (fun e => (n4 b e.symm).2.2 rfl))
  refine ⟨setCell_heap k1, otherV k2 n1, otherV k3 n2, otherV ho m1, h5, n1, n2, n3, fun q' hq' => ?_⟩
  obtain rfl : q = q' := by simpa [Value.ownBlock] using hq'
  exact ⟨m1, m2, m3⟩
end
set_option maxHeartbeats 2000000 in
set_option maxRecDepth 100000 in
theorem rnew_calls (n : Nat) (v : Int) (w : World) (h1 : 1 ≤ n) (h2 : n ≤ 16) : Calls Try.prog 10 #[.int .i64 (n : Int), .int .i64 v] w fun e w' => ∃ g a b i, e = .returned (.tuple #[.pointer (some ⟨g, 0, none⟩), .int .i64 0]) ∧ RB w' w.heap.size g a b i [v] (St.made n v) ∧ Below w.heap.size w w' := by
  have d1 : ¬ ((n : Int) < 1) := by omega
  have d2 : ¬ (16 < (n : Int)) := by omega
  go_enter Try.func10, Try.ntmps10
  go_upto_region 4 with (fail)
  have hMK : Making (((w.alloc (.cells #[.int .i64 v] 3)).alloc (.cells #[.bool false] 4)).alloc (.cells #[.slice (some ⟨w.heap.size, 0, none⟩) 1 1, .slice (some ⟨w.heap.size + 1, 0, none⟩) 1 1, .slice none 0 0] 59)) w.heap.size (w.heap.size + 1 + 1) w.heap.size (w.heap.size + 1) v (.slice none 0 0) 0 := by
    refine ⟨?_, row_alloc (row_alloc (row_lit w v _ rfl (Nat.le_refl _)) _) _, World.ownsRow.alloc ?_ _, own_nil _ _ _ _, by omega, by omega, by omega, by omega, fun q hq => by simp [Value.ownBlock] at hq⟩
    · exact MStr.alloc3_new w _ _ _
    · have h9 := World.ownsRow_lit (base := w.heap.size) (e := 4) (size := 1) (w.alloc (.cells #[.int .i64 v] 3)) #[.bool false] 1 (by simp) (by simp [maxLen]) rfl
      have e9 : (w.alloc (.cells #[.int .i64 v] 3)).heap.size = w.heap.size + 1 := by simp
      rw [e9] at h9
      exact h9
  have hBL : Below w.heap.size w (((w.alloc (.cells #[.int .i64 v] 3)).alloc (.cells #[.bool false] 4)).alloc (.cells #[.slice (some ⟨w.heap.size, 0, none⟩) 1 1, .slice (some ⟨w.heap.size + 1, 0, none⟩) 1 1, .slice none 0 0] 59)) := below_alloc (below_alloc (below_alloc (Below.refl _ _) _) _) _
  obtain ⟨w3, hw3⟩ : ∃ w3, (((w.alloc (.cells #[.int .i64 v] 3)).alloc (.cells #[.bool false] 4)).alloc (.cells #[.slice (some ⟨w.heap.size, 0, none⟩) 1 1, .slice (some ⟨w.heap.size + 1, 0, none⟩) 1 1, .slice none 0 0] 59)) = w3 := ⟨_, rfl⟩
  rw [hw3] at hMK hBL ⊢
  have HMK := Aside0.mk hMK
  have HBL := Aside0.mk hBL
  clear hw3 hMK hBL
  obtain ⟨g, hg⟩ : ∃ g, w.heap.size + 1 + 1 = g := ⟨_, rfl⟩
  obtain ⟨b, hb⟩ : ∃ b, w.heap.size + 1 = b := ⟨_, rfl⟩
  rw [hg, hb] at HMK
  rw [hg]
  clear hg hb d1 d2
  go_wp2_with fail
  go_loopg [7] n (fun kq v7 w' => ∃ (k : Nat) (V : Value), v7 = .int .i64 (k : Int) ∧ Aside0 (k + kq = n) ∧ Aside0 (Making w' w.heap.size g w.heap.size b v V k) ∧ Aside0 (Below w.heap.size w w'))
  case atStart => exact ⟨0, _, rfl, ⟨by omega⟩, HMK, HBL⟩
  case round =>
    clear HMK HBL
    obtain ⟨k, V, rfl, HK, HM, HB⟩ := hrel
    obtain ⟨x2, f2⟩ := HM.out.cell
    by_cases hlt : k < n
    · have hlt2 : (k : Int) < (n : Int) := by omega
      have HLT := Aside0.mk hlt
      have hgl := HM.out.glt
      have hne := Aside0.mk (show some g ≠ V.ownBlock from fun e => (HM.out.ne.2.2.2 g e.symm).1 rfl)
      clear hlt
      go_wp2_with (at_builtin; refine print_append_num (w0 := w) w.heap.size rfl _ _ 33 3 .i64 8 rfl Try.underlying33 (by kernel_rfl) (by decide) V (List.replicate k (-1)) (-1) rfl rfl ?c1 ?c2 ?c3 ?c4 ?_; (case c1 => have h9 := HM.out.ri; rw [show (List.replicate k (-1 : Int)).length = k by simp]; exact h9); (case c2 => exact HB.out); (case c3 => exact HB.out.size); (case c4 => simp; omega); intro v1 w4 ho hb hg hat; obtain ⟨q, c, hv⟩ := own_form ho (by simp); subst hv; have HO := Aside0.mk ho; have HAT := Aside0.mk hat; have HG := Aside0.mk hg; have HB4 := Aside0.mk hb; have y2 := (World.cell?_of_block (a := ⟨g, 2, none⟩) (hg.block g hgl hne.out)).trans x2; have z2 := (World.frozen?_of_block (a := ⟨g, 2, none⟩) (hg.block g hgl hne.out)).trans f2; clear ho hb hg hat x2 f2)
      have ho := HO.out
      rw [show List.replicate k (-1 : Int) ++ [-1] = List.replicate (k + 1) (-1) from List.replicate_succ'.symm, show (List.replicate (k + 1) (-1 : Int)).length = k + 1 by simp] at ho
      have hlk : (List.replicate k (-1 : Int) ++ [-1]).length = k + 1 := by simp
      have hq : V.ownBlock = some q ∨ wr.heap.size ≤ q := by
        rcases HAT.out with e | ⟨b', e, hle⟩
        · exact .inl (by rw [← e]; rfl)
        · obtain rfl : q = b' := by simpa [Value.ownBlock] using e
          exact .inr hle
      have HM4 := Aside0.mk (HM.out.more HG.out ho hq)
      have HB5 := Aside0.mk (below_set (j := 2) (v := .slice (some ⟨q, 0, none⟩) (k + 1) c) HB4.out HM.out.bg)
      clear ho hlk hq y2 z2
      go_wp2_with fail
      go_roundg (gk - 1)
      case measure => have := HK.out; have := HLT.out; omega
      case rel => exact ⟨k + 1, _, by go_num, ⟨by have := HK.out; have := HLT.out; omega⟩, HM4, HB5⟩
    · have hk : k = n := by have := HK.out; omega
      have hge : ¬ (k : Int) < (n : Int) := by omega
      clear hlt x2 f2
      go_wp2_with fail
      go_ret2
      subst hk
      obtain ⟨q, c, hv⟩ := own_form HM.out.ri (by omega)
      subst hv
      obtain ⟨m1, m2, m3, m4, m5, n1, n2, n3, n4⟩ := HM.out
      obtain ⟨n5, n6, n7⟩ := n4 q rfl
      refine ⟨g, rfl, ⟨w.heap.size, b, q, ?_⟩, HB.out⟩
      have e1 : (List.replicate k (-1 : Int)).length = k := List.length_replicate
      refine ⟨⟨1, 1, c, ?_, m2.reb (by omega), ?_, ?_⟩, m5, n1, n2, n5, n3, Ne.symm n6, Ne.symm n7⟩
      · show wr.heap[g]? = some (.cells #[.slice (some ⟨w.heap.size, 0, none⟩) 1 1, .slice (some ⟨b, 0, none⟩) 1 1, .slice (some ⟨q, 0, none⟩) (List.replicate k (-1 : Int)).length c] 59 (0, 0))
        rw [e1]; exact m1
      · show RowB wr w.heap.size b (givenOf 0 1).length 1 (givenOf 0 1)
        exact own_rebB m3 (RowB.base m3)
      · show Row wr w.heap.size q (List.replicate k (-1 : Int)).length c _
        rw [e1]; exact m4
end Go.Proofs.Ytmepodmcmpndoaa.WEp
