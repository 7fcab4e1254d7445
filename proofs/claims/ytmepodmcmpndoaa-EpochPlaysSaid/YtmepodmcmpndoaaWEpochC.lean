/-
  The calls of the document's epoch in memory, beside the epoch's own state. Conditions: those of each theorem.
-/
import Derived.Test.YtmepodmcmpndoaaWEpochB
set_option linter.unusedVariables false
set_option linter.unusedSimpArgs false
namespace Go.Proofs.Ytmepodmcmpndoaa.WEp
open Go.RowKit Go.Proofs.Ytmepodmcmpndoaa.PBase Go.Proofs.YtmepodmcmpndoaaW.PrintWords Go.Proofs.YtmepodmcmpndoaaW.PrintLast Go.Proofs.YtmepodmcmpndoaaW.PrintMore Go.Proofs.Ytmepodmcmpndoaa.Ep Go.Proofs.Ytmepodmcmpndoaa.EpM Go.MuLone
/-- Block g is the document's epoch of all that was published and of a state. -/
abbrev RB (w : World) (B g a b i : Nat) (H : List Int) (st : St) : Prop := RMem w B g a b i H (givenOf st.given.toNat H.length) st.rd
theorem own_reb {w : World} {B B' e n : Nat} {v : Value} {xs : List Value} (h : w.ownsRow B e 1 v n xs) (hB : B' ≤ B) : w.ownsRow B' e 1 v n xs := by
  obtain ⟨h1, h2⟩ := h
  refine ⟨h1, ?_⟩
  rcases h2 with h2 | ⟨g, cap, cur, e, hb, h3⟩
  · exact .inl h2
  · exact .inr ⟨g, cap, cur, e, Nat.le_trans hB hb, h3⟩
theorem waits_of {H : List Int} {s : St} (hk : Ok s) (hl : (H.length : Int) = s.new + 1) : ∀ k : Nat, k + 1 < H.length → waitsFor (k : Int) s.rd = decide (s.old.toNat ≤ k) := by
  intro k hkl
  rw [waitsFor_eq hk.range hk.given (by omega), decide_eq_decide]
  have := hk.old_ge
  have := hk.given
  omega
theorem appb_form {W w1 : World} {B a n c l : Nat} {v1 : Value} {xs : List Value} {u : Value} (ho : w1.ownsRow B 4 1 v1 l xs) (hat : v1.ownBlock = u.ownBlock ∨ ∃ b, v1.ownBlock = some b ∧ W.heap.size ≤ b) (hl : l ≠ 0) (hu : u = .slice (some ⟨a, 0, none⟩) n c) :
    ∃ a1 c1, v1 = .slice (some ⟨a1, 0, none⟩) l c1 ∧ (a1 = a ∨ W.heap.size ≤ a1) := by
  subst hu
  rcases ho.2 with ⟨rfl, e⟩ | ⟨b, cap, cur, rfl, _⟩
  · exact absurd e hl
  · refine ⟨b, cap, rfl, ?_⟩
    rcases hat with e | ⟨b', e, hle⟩
    · exact .inl (by simpa [Value.ownBlock] using e)
    · obtain rfl : b = b' := by simpa [Value.ownBlock] using e
      exact .inr hle
section
variable {w : World} {B g a b i : Nat} {H : List Int} {st : St}
set_option maxHeartbeats 1000000 in
set_option maxRecDepth 100000 in
theorem rpublish_calls (h : RB w B g a b i H st) (hB : B ≤ w.heap.size) (bo : Both H st) (hbig : H.length ≤ 900) (v : Int) :
    Calls Try.prog 12 #[.pointer (some ⟨g, 0, none⟩), .int .i64 v] w fun e w' => ∃ a' b' V, e = .returned V ∧ w'.ownsRow w.heap.size 3 1 V (st.pubs v).length (nums .i64 (st.pubs v)) ∧ RB w' B g a' b' i (H ++ [v]) (st.publish v) ∧
      (a' = a ∨ w.heap.size ≤ a') ∧ (b' = b ∨ w.heap.size ≤ b') ∧ Fr (Its g a b i) w w' := by
  have HM := Aside0.mk h
  have HBO := Aside0.mk bo
  obtain ⟨ca, cb, ci, ⟨x0, x1, x2⟩, ⟨f0, f1, f2⟩, hA, hG, hI⟩ := h.cells
  have HA := Aside0.mk hA
  have hgl := h.glt
  have hbg := h.bg
  have hga := h.ne.1
  have hgb := h.ne.2.1
  have hlen := bo.big
  have hl1 := bo.ok.len
  have hgv := bo.ok.given
  have hb1 : 1 ≤ H.length := by omega
  clear h bo hA hG hI x1 x2 f1 f2
  go_enter Try.func12, Try.ntmps12
  go_upto_region 2 with ((at_builtin; refine print_append_num (w0 := w) B rfl _ _ 33 3 .i64 8 rfl Try.underlying33 (by kernel_rfl) (by decide) (.slice (some ⟨a, 0, none⟩) H.length ca) H v rfl rfl ?c1 ?c2 ?c3 ?c4 ?_; (case c1 => exact HA.out); (case c2 => exact Below.refl _ _); (case c3 => exact hB); (case c4 => omega); intro v1 w2 ho hb hg hat; obtain ⟨a1, c1, hv, ha1⟩ := app_form ho hat (by simp) rfl; subst hv; have HO := Aside0.mk ho; have HAT := Aside0.mk ha1; have HG := Aside0.mk hg; have y0 := (World.cell?_of_block (a := ⟨g, 0, none⟩) (hg.block g hgl (by simp [Value.ownBlock]; omega))).trans x0; have z0 := (World.frozen?_of_block (a := ⟨g, 0, none⟩) (hg.block g hgl (by simp [Value.ownBlock]; omega))).trans f0; clear ho hb hg hat ha1))
  have hm2 := HM.out.growH HG.out HO.out HAT.out
  have hF2 : Fr (Its g a b i) w (w2.setCell ⟨g, 0, none⟩ (.slice (some ⟨a1, 0, none⟩) (H ++ [v]).length c1)) := (Fr.of_grown (X := Its g a b i) HG.out (fun k hk => .inr (.inl (by simpa [Value.ownBlock] using hk.symm)))).trans (Fr.set _ _ _ _) (fun k hk => .inl (.inl hk))
  rw [show (H ++ [v]).length = H.length + 1 by simp] at hm2 hF2
  obtain ⟨w3, hw3⟩ : ∃ w3, w2.setCell ⟨g, 0, none⟩ (.slice (some ⟨a1, 0, none⟩) (H.length + 1) c1) = w3 := ⟨_, rfl⟩
  rw [hw3] at hm2 hF2 ⊢
  clear hw3 x0 f0 y0 z0
  obtain ⟨ca, cb, ci, ⟨x0, x1, x2⟩, ⟨f0, f1, f2⟩, hA, hG, hI⟩ := hm2.cells
  have HM3 := Aside0.mk hm2
  have HF3 := Aside0.mk hF2
  have HG3 := Aside0.mk hG
  have hgl3 := hm2.glt
  have hB3 : B ≤ w3.heap.size := Nat.le_trans hB hF2.size
  have hgL : (givenOf st.given.toNat H.length).length = H.length := givenOf_length _ _
  rw [hgL] at x1 HG3
  clear hA hG hI x0 x2 f0 f2 hm2 hF2
  go_upto_region 3 with ((at_builtin; refine print_append (w0 := w3) B rfl _ _ 57 4 (.bool false) 1 rfl Try.underlying57 (by kernel_rfl) rfl (by decide) (.slice (some ⟨b, 0, none⟩) H.length cb) (bools (givenOf st.given.toNat H.length)) (.bool false) rfl rfl rfl ?d1 ?d2 ?d3 ?d4 ?_; (case d1 => have h9 := HG3.out; rw [show (bools (givenOf st.given.toNat H.length)).length = H.length by simp [bools, hgL]]; exact h9); (case d2 => exact Below.refl _ _); (case d3 => exact hB3); (case d4 => simp [bools, hgL]; omega); intro v4 w4 ho hb hg hat; obtain ⟨b1, c4, hv, hb1⟩ := appb_form ho hat (by simp) rfl; subst hv; have HO4 := Aside0.mk ho; have HAT4 := Aside0.mk hb1; have HG4 := Aside0.mk hg; have y1 := (World.cell?_of_block (a := ⟨g, 1, none⟩) (hg.block g hgl3 (by simp [Value.ownBlock]; omega))).trans x1; have z1 := (World.frozen?_of_block (a := ⟨g, 1, none⟩) (hg.block g hgl3 (by simp [Value.ownBlock]; omega))).trans f1; clear ho hb hg hat hb1))
  have hbl : (bools (givenOf st.given.toNat H.length)).length = H.length := by simp [bools, hgL]
  have hn0 : st.given.toNat ≤ H.length := by omega
  have hgs : givenOf st.given.toNat H.length ++ [false] = givenOf st.given.toNat (H.length + 1) := givenOf_snoc _ _ hn0
  have hRB : RowB w4 B b1 (givenOf st.given.toNat (H.length + 1)).length c4 (givenOf st.given.toNat (H.length + 1)) := by
    have h9 := HO4.out
    rw [show bools (givenOf st.given.toNat H.length) ++ [Value.bool false] = bools (givenOf st.given.toNat H.length ++ [false]) by simp [bools], hgs] at h9
    rw [show (bools (givenOf st.given.toNat (H.length + 1))).length = (givenOf st.given.toNat (H.length + 1)).length by simp [bools]] at h9
    exact h9
  have hm4 := HM3.out.growG HG4.out hRB HAT4.out
  rw [givenOf_length] at hm4
  rw [hbl]
  have hF4 : Fr (Its g a b i) w (w4.setCell ⟨g, 1, none⟩ (.slice (some ⟨b1, 0, none⟩) (H.length + 1) c4)) := (HF3.out.trans (Fr.of_grown (X := Its g a b i) HG4.out (fun k hk => .inr (.inr (.inl (by simpa [Value.ownBlock] using hk.symm))))) (fun k hk => .inl hk)).trans (Fr.set _ _ _ _) (fun k hk => .inl (.inl hk))
  obtain ⟨w5, hw5⟩ : ∃ w5, w4.setCell ⟨g, 1, none⟩ (.slice (some ⟨b1, 0, none⟩) (H.length + 1) c4) = w5 := ⟨_, rfl⟩
  rw [hw5] at hm4 hF4 ⊢
  have hs3 := HF3.out.size
  have HM5 := Aside0.mk hm4
  have HF5 := Aside0.mk hF4
  clear hw5 hm4 hF4 hRB hgs hbl y1 z1 x1 f1 hgL
  have hadd := HBO.out.ok.add v
  have hall := HBO.out.add_all v
  have hnew : ((H ++ [v]).length : Int) = (st.add v).new + 1 := by have h8 := HBO.out.len; rw [List.length_append]; have h7 : (st.add v).new = st.new + 1 := by (unfold St.new St.add; simp; omega)
                                                                   simp; omega
  have hog := hadd.old_ge
  have hol := hadd.old_le
  have hgv2 : (st.add v).given = st.given := rfl
  have hLL := back_of hadd hall
  go_wp2_with fail
  refine (rback_calls st.given.toNat (H.length + 1) (st.add v).old.toNat (st.pubs v) hLL.symm HM5.out (by simp) (by omega) (by omega) (by omega) (by rw [List.length_append] at hnew; simp at hnew; omega) HBO.out.ok.rd16 (fun k hk => waits_of hadd hnew k (by simp; omega))).mono ?_
  rintro e w6 ⟨V, rfl, hV, hm, hf⟩
  have HV := Aside0.mk hV
  have HM6 := Aside0.mk hm
  have HF6 := Aside0.mk hf
  clear hV hm hf hLL hnew hall hadd hog hol
  go_wp2_with fail
  go_ret
  have hsz := HF5.out.size
  refine ⟨a1, b1, _, rfl, own_reb HV.out hsz, ?_, HAT.out, by rcases HAT4.out with q | q; exact .inl q; exact .inr (by omega), HF5.out.trans HF6.out (fun k hk => ?_)⟩
  · have h9 := HM6.out
    show RMem w6 B g a1 b1 i (H ++ [v]) (givenOf (st.add v).old.toNat (H ++ [v]).length) st.rd
    rw [show (H ++ [v]).length = H.length + 1 by simp]
    exact h9
  · rcases HAT4.out with q | q
    · exact .inl (.inr (.inr (.inl (hk.trans q))))
    · exact .inr (by omega)
set_option maxHeartbeats 1000000 in
set_option maxRecDepth 100000 in
theorem rleave_calls (h : RB w B g a b i H st) (bo : Both H st) (hbig : H.length ≤ 900) (r : Int) :
    Calls Try.prog 17 #[.pointer (some ⟨g, 0, none⟩), .int .i64 r] w fun e w' => ∃ V x, e = .returned (.tuple #[V, .int .i64 x]) ∧ ((st.isIn r = true ∧ x = 0) ∨ (st.isIn r = false ∧ x = 120)) ∧ w'.ownsRow w.heap.size 3 1 V (st.leaves r).length (nums .i64 (st.leaves r)) ∧ RB w' B g a b i H (st.leave r) ∧ Fr (Its g a b i) w w' := by
  have HM := Aside0.mk h
  have HBO := Aside0.mk bo
  obtain ⟨ca, cb, ci, ⟨x0, x1, x2⟩, ⟨f0, f1, f2⟩, hA, hG, hI⟩ := h.cells
  have h16 := bo.ok.rd16
  have hlen := bo.big
  have hl1 := bo.ok.len
  have hgv := bo.ok.given
  have hb1 : 1 ≤ H.length := by omega
  clear h bo hA hG x0 x1 f0 f1 f2
  by_cases r1 : r < 1
  · have hin : st.isIn r = false := decide_eq_false (by omega)
    rw [show st.leave r = st by unfold St.leave; rw [if_neg (by rw [hin]; decide)], show st.leaves r = [] by unfold St.leaves; rw [if_neg (by rw [hin]; decide)]]
    have HIN := Aside0.mk hin
    clear hin hI
    go_enter Try.func17, Try.ntmps17
    go_wp2
    go_ret2
    exact ⟨_, 120, rfl, .inr ⟨HIN.out, rfl⟩, own_nil _ _ _ _, HM.out, Fr.refl _ _⟩
  · have r1' : 1 ≤ r := by omega
    by_cases r2 : r ≤ (st.rd.length : Int)
    · obtain ⟨ji, hji⟩ : ∃ ji, r - 1 = ji := ⟨_, rfl⟩
      have p0 : 0 ≤ ji := by omega
      have p1 : ji < (st.rd.length : Int) := by omega
      have p2 : ji ≤ 15 := by omega
      obtain ⟨hc, hfz⟩ := hI.cell ji.toNat (by omega)
      obtain ⟨x, hx⟩ : ∃ x, st.rd.getD ji.toNat 0 = x := ⟨_, rfl⟩
      rw [hx] at hc
      have hxr := HBO.out.ok.range x (by rw [← hx]; exact getD_mem (by omega))
      by_cases hneg : x < 0
      · have hin : st.isIn r = false := by
          unfold St.isIn; rw [hji, hx]; exact decide_eq_false (fun q => by rcases hxr with z | z; exact q.2.2 z; omega)
        rw [show st.leave r = st by unfold St.leave; rw [if_neg (by rw [hin]; decide)], show st.leaves r = [] by unfold St.leaves; rw [if_neg (by rw [hin]; decide)]]
        have HIN := Aside0.mk hin
        clear hin hI hx hxr hfz
        go_enter Try.func17, Try.ntmps17
        go_wp2
        go_ret2
        exact ⟨_, 120, rfl, .inr ⟨HIN.out, rfl⟩, own_nil _ _ _ _, HM.out, Fr.refl _ _⟩
      · have hin : st.isIn r = true := by
          unfold St.isIn; rw [hji, hx]; exact decide_eq_true ⟨r1', r2, by omega⟩
        have hle : st.leave r = (st.out r).swept := by unfold St.leave; rw [if_pos hin]
        have hls : st.leaves r = (st.out r).back := by unfold St.leaves; rw [if_pos hin]
        rw [hle, hls]
        have HIN := Aside0.mk hin
        have hout := HBO.out.ok.out r
        have hLL := back_of (H := H) hout HBO.out.all
        have hnew : (H.length : Int) = (st.out r).new + 1 := HBO.out.len
        have hog := hout.old_ge
        have hol := hout.old_le
        have hgv2 : (st.out r).given = st.given := rfl
        have hm3 := HM.out.setI ji.toNat (-1)
        have hf3 : Fr (Its g a b i) w (w.setCell ⟨i, ji.toNat, none⟩ (.int .i64 (-1))) := (Fr.refl (Its g a b i) w).trans (Fr.set _ i _ _) (fun k hk => .inl (.inr (.inr (.inr hk))))
        have hrd : st.rd.set ji.toNat (-1) = (st.out r).rd := by unfold St.out; rw [hji]
        rw [hrd] at hm3
        have HP := Aside0.mk (And.intro hLL (And.intro hnew (And.intro hog (And.intro hol (And.intro hgv2 hout)))))
        clear hin hI hx hxr hle hls hout hLL hnew hog hol hgv2 hrd
        go_enter Try.func17, Try.ntmps17
        go_wp2_with fail
        obtain ⟨w3, hw3⟩ : ∃ w3, w.setCell ⟨i, ji.toNat, none⟩ (.int .i64 (-1)) = w3 := ⟨_, rfl⟩
        rw [hw3] at hm3 hf3 ⊢
        have HM3 := Aside0.mk hm3
        have HF3 := Aside0.mk hf3
        clear hw3 hm3 hc hfz x2 hf3
        obtain ⟨hLL, hnew, hog, hol, hgv2, hout⟩ := HP.out
        refine (rback_calls st.given.toNat H.length (st.out r).old.toNat (st.out r).back hLL.symm HM3.out rfl hb1 (by omega) (by omega) (by omega) hout.rd16 (waits_of hout hnew)).mono ?_
        rintro e w6 ⟨V, rfl, hV, hm, hf⟩
        have HV := Aside0.mk hV
        have HM6 := Aside0.mk hm
        have HF6 := Aside0.mk hf
        clear hV hm hf hLL hnew hog hol hgv2 hout HP
        go_wp2_with fail
        go_ret2
        exact ⟨_, 0, rfl, .inl ⟨HIN.out, rfl⟩, own_reb HV.out HF3.out.size, HM6.out, HF3.out.trans HF6.out (fun k hk => .inl (.inr (.inr (.inl hk))))⟩
    · have hin : st.isIn r = false := decide_eq_false (fun q => r2 q.2.1)
      rw [show st.leave r = st by unfold St.leave; rw [if_neg (by rw [hin]; decide)], show st.leaves r = [] by unfold St.leaves; rw [if_neg (by rw [hin]; decide)]]
      have HIN := Aside0.mk hin
      have r3 : (st.rd.length : Int) < r := by omega
      clear hin hI
      go_enter Try.func17, Try.ntmps17
      go_wp2
      go_ret2
      exact ⟨_, 120, rfl, .inr ⟨HIN.out, rfl⟩, own_nil _ _ _ _, HM.out, Fr.refl _ _⟩
end
end Go.Proofs.Ytmepodmcmpndoaa.WEp
