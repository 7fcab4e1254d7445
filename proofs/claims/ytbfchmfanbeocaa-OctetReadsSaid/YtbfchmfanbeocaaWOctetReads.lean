/-
  The walk of the law OctetReads, by hand, out of the contracts of what it calls.
-/
import Derived.Test.YtbfchmfanbeocaaWOctetRdr
set_option linter.unusedVariables false
set_option linter.unusedSimpArgs false
namespace Go.Proofs.Ytbfchmfanbeocaa.WOctetReads
open Go.RowKit Go.Proofs.Ytbfchmfanbeocaa.PBase Go.Proofs.YtbfchmfanbeocaaW.PrintWords Go.Proofs.YtbfchmfanbeocaaW.PrintLast Go.Proofs.YtbfchmfanbeocaaW.PrintMore
theorem grown_of_below {w w1 : World} (h : Below w.heap.size w w1) (row : Option Nat) : w.grownBy w1 row := ⟨h.os, h.tape, h.output, h.size, fun k hk _ => h.block k hk⟩
set_option maxHeartbeats 2000000 in
set_option maxRecDepth 100000 in
theorem main (A0 : Option Addr) (c0 : Nat) (l : List Int) (A2 : Option Addr) (c2 : Nat) (ls : List S44) (w : World) (hr0 : Kd.C (Kd.int .u8) w A0 l.length l) (hc0 : l.length ≤ c0) (hr2 : Kd.C k44 w A2 ls.length ls) (hc2 : ls.length ≤ c2)
    (hl : l.length ≤ 140737488355200) (hls : ls.length ≤ 140737488355200) (hbl : MTally.Bytes l) (hf : ∀ x ∈ ls, -9223372036854775808 ≤ x.f1 ∧ x.f1 ≤ 9223372036854775807) :
    Calls Try.prog 7 #[.slice A0 l.length c0, .slice A2 ls.length c2] w fun e w' => e = .returned (.bool true) ∧ Below w.heap.size w w' := by
  obtain ⟨ks, hks⟩ := Pure.same_ev (l := l) (by omega)
  have H3 := Aside0.mk (hks _ (Nat.le_refl _))
  have HR0 := Aside0.mk hr0; have HC0 := Aside0.mk hc0; have HR2 := Aside0.mk hr2; have HC2 := Aside0.mk hc2
  have HL := Aside0.mk hl; have HLS := Aside0.mk hls; have HF := Aside0.mk hf; have HBL := Aside0.mk hbl
  clear hr0 hc0 hr2 hc2 hf hks hbl
  have HB := Aside0.mk (Below.refl w.heap.size w)
  go_enter Try.func7, Try.ntmps7
  go_wp2_with fail
  refine (crosswaylaw01_awake.calls true _ rfl).mono ?_
  rintro e w1 ⟨rfl, hb⟩
  replace HB := Aside0.mk (below_of (by repeat (first | (with_reducible first | exact HB.out | apply below_alloc | apply pw_below_drewN | apply below_drew1) | exact HB.out)) hb); clear hb
  go_wp2_with fail
  refine (crosswaylaw01_lent.calls _ _ l _ (Kd.C_below HR0.out (by repeat (first | (with_reducible first | exact HB.out | apply below_alloc | apply pw_below_drewN | apply below_drew1) | exact HB.out))) HC0.out HL.out).mono ?_
  rintro e w2 ⟨go_, co, rfl, ho, hb⟩
  have HBO := Aside0.mk (show w.heap.size ≤ w1.heap.size from HB.out.size)
  replace HB := Aside0.mk (below_of (by repeat (first | (with_reducible first | exact HB.out | apply below_alloc | apply pw_below_drewN | apply below_drew1) | exact HB.out)) hb); clear hb
  have HO := Aside0.mk (lent_reads ho)
  have HOR := Aside0.mk (show Kd.R (Kd.int .u8) 5 w2 w.heap.size (fun _ => True) (.slice (some ⟨go_, 0, none⟩) (l.length + 2) co) (l ++ [201, 202]) from Kd.R_lower ho HBO.out); clear ho
  have HGO := Aside0.mk (show w.heap.size ≤ go_ ∧ go_ < w2.heap.size from ⟨Kd.R_base HOR.out go_ rfl, Kd.R_lt HOR.out go_ rfl⟩)
  have HB2 := Aside0.mk (Below.refl w2.heap.size w2)
  go_wp2_with fail
  refine (octet_New.calls _ _ l _ HO.out.2.2 HO.out.1 HL.out).mono ?_
  rintro e w4 ⟨g, b, rfl, hr, hg, hb, hbl⟩
  have HG := Aside0.mk (show w2.heap.size ≤ g ∧ w2.heap.size ≤ b from ⟨hg, hb⟩)
  replace HB := Aside0.mk (below_of (by repeat (first | (with_reducible first | exact HB.out | apply below_alloc | apply pw_below_drewN | apply below_drew1) | exact HB.out)) hbl); replace HB2 := Aside0.mk (below_of (by repeat (first | (with_reducible first | exact HB2.out | apply below_alloc | apply pw_below_drewN | apply below_drew1) | exact HB2.out)) hbl)
  have HRD := Aside0.mk hr
  clear hr hg hb hbl
  go_wp2_with fail
  refine (rnew _ _ l _ (Kd.C_below HR0.out (by repeat (first | (with_reducible first | exact HB.out | apply below_alloc | apply pw_below_drewN | apply below_drew1) | exact HB.out))) HC0.out HL.out).mono ?_
  rintro e w5 ⟨B, rfl, hr, hB, hbl⟩
  have HS4 := Aside0.mk (show g < w4.heap.size ∧ b < w4.heap.size from ⟨HRD.out.glt, HRD.out.lt⟩)
  replace HRD := Aside0.mk (HRD.out.below hbl)
  replace HB := Aside0.mk (below_of (by repeat (first | (with_reducible first | exact HB.out | apply below_alloc | apply pw_below_drewN | apply below_drew1) | exact HB.out)) hbl); replace HB2 := Aside0.mk (below_of (by repeat (first | (with_reducible first | exact HB2.out | apply below_alloc | apply pw_below_drewN | apply below_drew1) | exact HB2.out)) hbl)
  obtain ⟨g2, hg2⟩ : ∃ g2, w4.heap.size = g2 := ⟨_, rfl⟩
  rw [hg2] at HS4 hr hB ⊢
  have HRR := Aside0.mk (show RRd 47 w5 g2 B l ((0 : Nat) : Int) false from hr)
  have HBQ := Aside0.mk hB
  clear hr hB hbl hg2
  have H5 := Aside0.mk (HB2.out.size)
  go_wp2_with fail
  refine (crosswaylaw01_whole.yes ks _ _ _ _ l _ (Kd.C_below HO.out.2.1.2 (by repeat (first | (with_reducible first | exact HB2.out | apply below_alloc | apply pw_below_drewN | apply below_drew1) | exact HB2.out))) HO.out.2.1.1 (Kd.C_below HR0.out (by repeat (first | (with_reducible first | exact HB.out | apply below_alloc | apply pw_below_drewN | apply below_drew1) | exact HB.out))) HC0.out H3.out HL.out).mono ?_
  rintro e w6 ⟨rfl, ⟨nd6, rfl⟩⟩
  go_wp2_with fail
  replace HOR := Aside0.mk (Kd.R_below HOR.out HB2.out)
  clear HB2 H5 HO
  go_loopg [9] l.length (fun kq v9 w' => ∃ (i : Nat) (xs : List Int), v9 = .int .i64 (i : Int) ∧ Aside0 (l.length = i + kq) ∧ Aside0 (xs.length = l.length + 2) ∧ Aside0 (Kd.R (Kd.int .u8) 5 w' w.heap.size (fun _ => True) (.slice (some ⟨go_, 0, none⟩) (l.length + 2) co) xs) ∧ Aside0 (Below w.heap.size w w') ∧ Aside0 (MReader.Rdr 52 w' g b (lf l 0 false) false) ∧ Aside0 (RRd 47 w' g2 B l ((0 : Nat) : Int) false))
  case atStart => exact ⟨0, l ++ [201, 202], rfl, ⟨by omega⟩, ⟨by simp⟩, ⟨(by repeat (first | (with_reducible first | exact HOR.out | apply Kd.R_drewN | apply Kd.R_drew | apply Kd.R_alloc) | exact HOR.out))⟩, ⟨(by repeat (first | (with_reducible first | exact HB.out | apply below_alloc | apply pw_below_drewN | apply below_drew1) | exact HB.out))⟩, ⟨HRD.out.drewN _⟩, ⟨HRR.out.drewN _⟩⟩
  case round =>
    clear HB HOR HRD HRR
    obtain ⟨i, xs, rfl, HI, HXL, HX, HB, HRD, HRR⟩ := hrel
    have hi := HI.out
    cases gk with
    | zero =>
      have hge : ¬ (i : Int) < (l.length : Int) := by omega
      clear hi HX HXL
      go_wp2_with fail
      obtain ⟨wo, rfl⟩ : ∃ wo : World, wo = wr := ⟨_, rfl⟩
      go_loopg [10] ls.length (fun kq v10 w' => ∃ (i p : Nat) (s : Bool), v10 = .int .i64 (i : Int) ∧ Aside0 (ls.length = i + kq) ∧ Aside0 (p ≤ l.length) ∧ Aside0 (MReader.Rdr 52 w' g b (lf l p s) s) ∧ Aside0 (RRd 47 w' g2 B l (p : Int) s) ∧ Aside0 (Below w.heap.size w w'))
      case atStart => exact ⟨0, 0, false, rfl, ⟨by omega⟩, ⟨Nat.zero_le _⟩, HRD, HRR, HB⟩
      case round =>
        clear HB HRD HRR HI
        obtain ⟨i, p, s, rfl, HI, HP, HRD, HRR, HB⟩ := hrel
        have hi := HI.out
        cases gk with
        | zero =>
          have hge : (ls.length : Int) ≤ (i : Int) := by omega
          clear hi
          go_wp2_with fail
          go_ret
          exact ⟨rfl, HB.out⟩
        | succ d =>
          have hlt : (i : Int) < (ls.length : Int) := by omega
          have hi0 : i < ls.length := by omega
          obtain ⟨ad0, e0, hx0, hx1⟩ := at_take HR2.out hi0
          subst e0
          have hf1 := HF.out _ (List.getElem_mem hi0)
          obtain ⟨x, hx⟩ : ∃ x, ls[i].f1 = x := ⟨_, rfl⟩
          obtain ⟨bb, hbb⟩ : ∃ bb, ls[i].f0 = bb := ⟨_, rfl⟩
          rw [hx] at hx1 hf1
          rw [hbb] at hx0
          obtain ⟨kn, na, nb, oka, okb, hk1, hk2, hk3, hk4⟩ := num_both HBL.out HL.out HP.out s hf1
          have HK1 := Aside0.mk hk1; have HK2 := Aside0.mk hk2; have HK3 := Aside0.mk hk3; have HK4 := Aside0.mk hk4
          obtain ⟨ji, hji⟩ : ∃ ji : Int, (i : Int) = ji := ⟨_, rfl⟩
          rw [show i * 2 = ji.toNat * 2 by omega] at hx0 hx1
          have q0 : (0 : Int) ≤ ji := by omega
          rw [hji] at hlt ⊢
          have HX1 := Aside0.mk hx1
          replace hx0 := pw_cell_below HB.out hx0
          replace hx1 := pw_cell_below HB.out hx1
          have HJ := Aside0.mk hji
          have HSZ := Aside0.mk (show g < wr.heap.size ∧ b < wr.heap.size ∧ g2 < wr.heap.size ∧ ∀ q, B = some q → q < wr.heap.size from ⟨HRD.out.glt, HRD.out.lt, HRR.out.glt, fun q hq => (HRR.out.lt q hq).1⟩)
          have HGW := Aside0.mk (show w.heap.size ≤ g ∧ w.heap.size ≤ g2 from by have h1 := HGO.out; have h2 := HG.out; have h3 := HS4.out; omega)
          clear hji hi0 hi hx hbb hk1 hk2 hk3 hk4
          cases bb with
          | true =>
            go_wp2_with fail
            refine (obytes g b l p s x _ HRD.out HP.out HL.out).mono ?_
            rintro e w9 ⟨vx, rfl, hv, hr, hgr⟩
            replace HB := Aside0.mk (MReader.below_grown HB.out hgr HGW.out.1 HB.out.size)
            replace HRD := Aside0.mk hr
            replace HRR := Aside0.mk (HRR.out.grown hgr (by have := HS4.out; simp; omega) (fun q hq => by have := HBQ.out q hq; have := HS4.out; simp; omega))
            have HXB := Aside0.mk (show ∀ q, vx.ownBlock = some q → wr.heap.size ≤ q from fun q hq => Kd.R_base hv q hq)
            have HX := Aside0.mk (show Kd.R (Kd.int .u8) 5 w9 wr.heap.size (fun k => k ≠ g ∧ k ≠ b) vx (got l p s x) from hv)
            have HS9 := Aside0.mk (show wr.heap.size ≤ w9.heap.size from hgr.size)
            clear hv hr hgr hx1
            have hx1 := pw_cell_below HB.out HX1.out
            go_wp2_with fail
            refine (rbytes g2 B l p s x _ HRR.out HP.out HL.out).mono ?_
            rintro e w10 ⟨vy, rfl, hv, hr, hgr⟩
            replace HB := Aside0.mk (MReader.below_grown HB.out hgr HGW.out.2 HB.out.size)
            replace HRR := Aside0.mk hr
            replace HRD := Aside0.mk (HRD.out.grown hgr (by have := HS4.out; simp; omega) (by have := HS4.out; simp; omega))
            replace HX := Aside0.mk (Kd.R_grown (Kd.R_bound HX.out) hgr (fun k hk => by have := hk.2.1; have := HSZ.out.2.2.1; simp; omega))
            have HYC := Aside0.mk (Kd.R_reads hv)
            clear hv hr hgr hx1 hx0
            obtain ⟨Ay, cy, rfl, hy1, hy2⟩ := HYC.out
            have HY1 := Aside0.mk hy1; have HY2 := Aside0.mk hy2
            replace HX := Aside0.mk (Kd.R_mono (ok' := fun _ => True) (Kd.R_lower HX.out (show w.heap.size ≤ wr.heap.size by have h1 := HGW.out; have h2 := HSZ.out; omega)) (fun _ _ => trivial))
            obtain ⟨Ax, cx, rfl⟩ := Kd.R_slice HX.out
            have hgl := got_length l p s x
            obtain ⟨m, hm⟩ : ∃ m, got l p s x = m := ⟨_, rfl⟩
            rw [hm] at HX HXB HY1 HY2 hgl ⊢
            obtain ⟨km, hkm⟩ := Pure.same_ev (l := m) (by omega)
            have HKM := Aside0.mk (hkm _ (Nat.le_refl _))
            have HML := Aside0.mk hgl
            clear hkm hm HYC hy1 hy2
            go_wp2_with fail
            refine (crosswayref01_Same.calls km _ _ m _ _ m true _ (Kd.R_reads' HX.out).2.2 (Kd.R_reads' HX.out).2.1 HY2.out HY1.out HKM.out).mono ?_
            rintro e w11 ⟨rfl, ⟨nd, rfl⟩⟩
            go_wp2_with fail
            have HP2 := Aside0.mk (np_le HP.out s x)
            obtain ⟨p2, hp2⟩ : ∃ p2, np l p s x = p2 := ⟨_, rfl⟩
            obtain ⟨s2, hs2⟩ : ∃ s2, (!good l p s x) = s2 := ⟨_, rfl⟩
            rw [hp2, hs2] at HRD HRR
            rw [hp2] at HP2
            have hss : (s2 != s2) = false := by simp
            clear hp2 hs2
            obtain ⟨wi, rfl⟩ : ∃ wi : World, wi = wr := ⟨_, rfl⟩
            go_loopg [13] m.length (fun kq v13 w' => ∃ (k : Nat) (xs : List Int), v13 = .int .i64 (k : Int) ∧ Aside0 (m.length = k + kq) ∧ Aside0 (xs.length = m.length) ∧ Aside0 (Kd.R (Kd.int .u8) 5 w' w.heap.size (fun _ => True) (.slice Ax m.length cx) xs) ∧ Aside0 (Below w.heap.size w w') ∧ Aside0 (MReader.Rdr 52 w' g b (lf l p2 s2) s2) ∧ Aside0 (RRd 47 w' g2 B l (p2 : Int) s2))
            case atStart => exact ⟨0, m, rfl, ⟨by omega⟩, ⟨rfl⟩, ⟨(by repeat (first | (with_reducible first | exact HX.out | apply Kd.R_drewN | apply Kd.R_drew | apply Kd.R_alloc) | exact HX.out))⟩, ⟨(by repeat (first | (with_reducible first | exact HB.out | apply below_alloc | apply pw_below_drewN | apply below_drew1) | exact HB.out))⟩, ⟨HRD.out.drewN _⟩, ⟨HRR.out.drewN _⟩⟩
            case round =>
              clear HX HB HRD HRR
              obtain ⟨kk, xs, rfl, HI3, HXL, HX, HB, HRD, HRR⟩ := hrel
              have hi3 := HI3.out
              have N1 := Aside0.mk (show some g ≠ (Value.slice Ax m.length cx).ownBlock ∧ some b ≠ (Value.slice Ax m.length cx).ownBlock ∧ some g2 ≠ (Value.slice Ax m.length cx).ownBlock ∧ (∀ q, B = some q → some q ≠ (Value.slice Ax m.length cx).ownBlock) from
                ⟨fun e => by have := HXB.out g e.symm; have := HSZ.out.1; omega, fun e => by have := HXB.out b e.symm; have := HSZ.out.2.1; omega, fun e => by have := HXB.out g2 e.symm; have := HSZ.out.2.2.1; omega, fun q hq e => by have := HXB.out q e.symm; have := HSZ.out.2.2.2 q hq; omega⟩)
              cases gk with
              | zero =>
                have hge : (m.length : Int) ≤ (kk : Int) := by omega
                clear hi3
                go_wp2_with (first | ((with_reducible refine gate_dst (N := 91) rfl ?_); refine Kd.R_lit (Kd.int .u8) _ 5 ?hg (N := 91) ?hd (xs := ([1, 2, 3] : List Int)) (inner := [.int .u8 1, .int .u8 2, .int .u8 3]) (ok := fun _ => True) (okp := fun _ => True) ?hr ?hp (fun _ hk => hk) trivial (Below.refl _ _) (Nat.le_refl _) (by simp) ?_; (case hd => rfl); (case hg => rfl); (case hr => first | (go_simp; done) | (go_simp; rfl)); (case hp => exact (Reps.one (show Kd.M (Kd.int .u8) _ _ _ 1 [.int .u8 1] from rfl) (Reps.one (show Kd.M (Kd.int .u8) _ _ _ 2 [.int .u8 2] from rfl) (Reps.one (show Kd.M (Kd.int .u8) _ _ _ 3 [.int .u8 3] from rfl) (Reps.none _ _))))); intro v7 w7 ho hb hg_ hnew_; clear hg_ hnew_; obtain ⟨A7, c7, e_⟩ := Kd.R_slice ho; subst e_; have C7 := Aside0.mk (Kd.R_reads' ho).2.2; have L7 := Aside0.mk (Kd.R_reads' ho).2.1; clear ho; replace HX := Aside0.mk (Kd.R_below HX.out hb); replace HRD := Aside0.mk (HRD.out.below hb); replace HRR := Aside0.mk (HRR.out.below hb); replace HB := Aside0.mk (below_step (by repeat (first | (with_reducible first | exact HB.out | apply below_alloc | apply pw_below_drewN | apply below_drew1) | exact HB.out)) hb); clear hb) | ((with_reducible refine gate_builtin (b := .append) (xs := #[.tmp 90, .tmp 91]) rfl ?_); at_builtin; refine Kd.R_append_rows (Kd.int .u8) (w0 := w) w.heap.size rfl (.tmp 90) (.tmp 91) 22 5 (.int .u8 0) 1 rfl Try.underlying22 info5 rfl (by decide) (by omega) (.slice Ax m.length cx) xs [1, 2, 3] _ _ _ (fun _ => True) (fun _ => False) rfl rfl ?aO ?aR (fun _ _ h => h) (fun _ h => h.elim) ?aF ?aB ?aS ?aL ?_; (case aR => exact C7.out); (case aB => exact HB.out); (case aF => exact (fun _ _ => trivial)); (case aO => exact HX.out); (case aS => exact HB.out.size); (case aL => have := HXL.out; have := HML.out; have := HL.out; simp only [List.length_cons, List.length_nil]; omega); intro v8 w8 ho hb hg hat; have n0_ := Aside0.mk hb; have O8 := Aside0.mk ho; replace HRD := Aside0.mk (HRD.out.grown hg N1.out.1 N1.out.2.1); replace HRR := Aside0.mk (HRR.out.grown hg N1.out.2.2.1 N1.out.2.2.2); clear O8; obtain ⟨A8, c8, e8⟩ := Kd.R_slice ho; subst e8; have h8 : ((xs ++ [1, 2, 3]).length : Int) = (m.length : Int) + 3 := (by have := HXL.out; rw [List.length_append]; simp only [List.length_cons, List.length_nil]; omega); obtain ⟨q8, hq8⟩ : ∃ q8, (xs ++ [1, 2, 3]).length = q8 := ⟨_, rfl⟩; rw [hq8] at h8 ⊢; clear HB; have HB := n0_; clear n0_; clear ho hb hg hat))
                obtain ⟨A5, c5, w0_, w1_, y2, w3_, w4_, w5_, w6_⟩ := HRR.out.cells
                clear w0_ w1_ w3_ w4_ w5_ w6_
                go_quiet ((first | (go_at_call 20; exact Calls.quiet_of_same ((octet_Reader_Left.calls g b _ s2 _ (HRD.out.drewN _)).mono fun _ _ h => ⟨h.1, h.2.symm⟩)) | (go_at_call 26; exact Calls.quiet_of ((rleft_any g2 B l p2 s2 _ (HRR.out.drewN _) HP2.out HL.out).mono fun _ _ h => ⟨h.1, h.2.out⟩)) | (go_at_call 21; exact Calls.quiet_of_same ((octet_Reader_Short.calls g b _ s2 _ (HRD.out.drewN _)).mono fun _ _ h => ⟨h.1, h.2.symm⟩))))
                go_wp2_with fail
                go_roundg d
                case measure => omega
                case rel => exact ⟨i + 1, p2, s2, by have := HJ.out; go_num, ⟨by have := HI.out; omega⟩, HP2, ⟨HRD.out.drewN _⟩, ⟨HRR.out.drewN _⟩, ⟨(by repeat (first | (with_reducible first | exact HB.out | apply below_alloc | apply pw_below_drewN | apply below_drew1) | exact HB.out))⟩⟩
              | succ d3 =>
                have hlt3 : (kk : Int) < (m.length : Int) := by omega
                obtain ⟨jk, hjk⟩ : ∃ jk : Int, (kk : Int) = jk := ⟨_, rfl⟩
                have p0 : 0 ≤ jk := by omega
                have p1 : jk < (m.length : Int) := by omega
                obtain ⟨t, ht⟩ : ∃ t : Int, Go.bits .xor .u8 (rdOf 0 xs jk) 255 = t := ⟨_, rfl⟩
                obtain ⟨gx, cx', eo, gb, gl, cl, hG⟩ := Kd.R_form HX.out (by have := HXL.out; omega)
                injection eo with ea_ en_ ec_
                subst ea_; subst ec_; clear en_
                have GB := Aside0.mk gb
                obtain ⟨hx, hf⟩ := Kd.R_celln 0 HX.out jk p0 (by have := HXL.out; omega)
                have HPT := Kd.R_putg HX.out jk t
                have HJK := Aside0.mk hjk
                rw [hjk] at hlt3 ⊢
                clear gb gl hG hi3 hjk
                go_wp2_with fail
                go_roundg d3
                case measure => omega
                case rel => exact ⟨kk + 1, _, by have := HJK.out; go_num, ⟨by have := HI3.out; omega⟩, ⟨by rw [List.length_set]; exact HXL.out⟩, ⟨HPT.1⟩, ⟨below_set HB.out GB.out⟩, ⟨HRD.out.grown HPT.2 N1.out.1 N1.out.2.1⟩, ⟨HRR.out.grown HPT.2 N1.out.2.2.1 N1.out.2.2.2⟩⟩
          | false =>
            go_wp2_with fail
            go_region_held3 (fun w' => w'.cell? ⟨(ad0.add (ji.toNat * 2)).block, (ad0.add (ji.toNat * 2)).off + 1, none⟩ = some (.int .i64 x)) (go_keep) (first | (go_at_call 18; refine (onum kn g b l p s x na oka wr.drew (MReader.Rdr.keep HRD.out rfl rfl (Nat.le_refl _)) HP.out HK1.out (fun h => ⟨(HK3.out h).1, (HK3.out h).2.2.1⟩) (fun h => (HK4.out h).1)).mono ?_; rintro e w3 ⟨rfl, hr, hgr⟩; have hgr3 : wr.grownBy w3 (some g) := ⟨hgr.os, hgr.tape, hgr.output, hgr.size, hgr.block⟩; have HB3 := Aside0.mk (MReader.below_grown HB.out hgr3 HGW.out.1 HB.out.size); have HRR3 := Aside0.mk (HRR.out.grown hgr3 (by have := HS4.out; simp; omega) (fun q hq => by have := HBQ.out q hq; have := HS4.out; simp; omega)); have HRD3 := Aside0.mk hr; have z1 := pw_cell_below HB3.out HX1.out; clear hx1 HB hr hgr hgr3) | (go_at_call 25; refine (rnum kn g2 B l p s x nb okb _ HRR3.out HL.out HK2.out (fun h => ⟨(HK3.out h).2.1, (HK3.out h).2.2.2⟩) (fun h => (HK4.out h).2)).mono ?_; rintro e w5 ⟨rfl, hr, hgr⟩; have HB := Aside0.mk (MReader.below_grown HB3.out hgr HGW.out.2 HB3.out.size); have HRD5 := Aside0.mk (HRD3.out.grown hgr (by have := HS4.out; simp; omega) (by have := HS4.out; simp; omega)); have HRR5 := Aside0.mk hr; have z2 := pw_cell_below HB.out HX1.out; clear hr hgr z1 HB3))
            go_wp2_with fail
            have HP2 := Aside0.mk (np8_le HP.out s x)
            obtain ⟨p2, hp2⟩ : ∃ p2, np8 l p s x = p2 := ⟨_, rfl⟩
            obtain ⟨s2, hs2⟩ : ∃ s2, (!good8 l p s x) = s2 := ⟨_, rfl⟩
            rw [hp2, hs2] at HRD5 HRR5
            rw [hp2] at HP2
            have hss : (s2 != s2) = false := by simp
            clear hp2 hs2 HRD HRR z2
            have HRD := HRD5
            have HRR := HRR5
            clear HRD5 HRR5 HRR3 HRD3
            obtain ⟨A5, c5, w0_, w1_, y2, w3_, w4_, w5_, w6_⟩ := HRR.out.cells
            clear w0_ w1_ w3_ w4_ w5_ w6_
            go_quiet ((first | (go_at_call 20; exact Calls.quiet_of_same ((octet_Reader_Left.calls g b _ s2 _ (HRD.out.drewN _)).mono fun _ _ h => ⟨h.1, h.2.symm⟩)) | (go_at_call 26; exact Calls.quiet_of ((rleft_any g2 B l p2 s2 _ (HRR.out.drewN _) HP2.out HL.out).mono fun _ _ h => ⟨h.1, h.2.out⟩)) | (go_at_call 21; exact Calls.quiet_of_same ((octet_Reader_Short.calls g b _ s2 _ (HRD.out.drewN _)).mono fun _ _ h => ⟨h.1, h.2.symm⟩))))
            go_wp2_with fail
            go_roundg d
            case measure => omega
            case rel => exact ⟨i + 1, p2, s2, by have := HJ.out; go_num, ⟨by have := HI.out; omega⟩, HP2, ⟨HRD.out.drewN _⟩, ⟨HRR.out.drewN _⟩, ⟨(by repeat (first | (with_reducible first | exact HB.out | apply below_alloc | apply pw_below_drewN | apply below_drew1) | exact HB.out))⟩⟩
    | succ d =>
      have hlt : (i : Int) < (l.length : Int) := by omega
      obtain ⟨ji, hji⟩ : ∃ ji : Int, (i : Int) = ji := ⟨_, rfl⟩
      have p0 : 0 ≤ ji := by omega
      have p1 : ji < (l.length : Int) := by omega
      obtain ⟨t, ht⟩ : ∃ t : Int, Go.bits .xor .u8 (rdOf 0 xs ji) 255 = t := ⟨_, rfl⟩
      have GB := Aside0.mk HGO.out.1
      obtain ⟨hx, hf⟩ := Kd.R_celln 0 HX.out ji p0 (by have := HXL.out; omega)
      have HP := Kd.R_putg HX.out ji t
      have HJ := Aside0.mk hji
      rw [hji] at hlt ⊢
      clear hi hji
      go_wp2_with fail
      go_roundg d
      case measure => omega
      case rel => exact ⟨i + 1, _, by have := HJ.out; go_num, ⟨by have := HI.out; omega⟩, ⟨by rw [List.length_set]; exact HXL.out⟩, ⟨HP.1⟩, ⟨below_set HB.out HGO.out.1⟩, ⟨HRD.out.grown HP.2 (by have := HGO.out; have := HG.out; simp; omega) (by have := HGO.out; have := HG.out; simp; omega)⟩, ⟨HRR.out.grown HP.2 (by have := HGO.out; have := HG.out; have := HS4.out; simp; omega) (fun q hq => by have := HBQ.out q hq; have := HGO.out; have := HG.out; have := HS4.out; simp; omega)⟩⟩
end Go.Proofs.Ytbfchmfanbeocaa.WOctetReads
namespace Go.Proofs.Ytbfchmfanbeocaa.WOctetReads
open Go.RowKit Go.Proofs.Ytbfchmfanbeocaa.PBase Go.Proofs.Ytbfchmfanbeocaa.MTally Go.Proofs.YtbfchmfanbeocaaW.PrintWords
theorem calls (A0 : Option Addr) (c0 : Nat) (l : List Int) (A2 : Option Addr) (c2 : Nat) (ls : List S44) (hl : l.length * 1 ≤ 140737488351232) (hb : ∀ x ∈ l, (Lit.int .u8 x).wf = true)
    (hl2 : ls.length * 16 ≤ 140737488351232) (hf : ∀ x ∈ ls, True ∧ (Lit.int .i64 x.f1).wf = true)
    (w : World) (hr0 : Kd.C (Kd.int .u8) w A0 l.length l) (hc0 : l.length ≤ c0) (hr2 : Kd.C k44 w A2 ls.length ls) (hc2 : ls.length ≤ c2) :
    Calls Try.prog 7 #[.slice A0 l.length c0, .slice A2 ls.length c2] w fun e w' => e = .returned (.bool true) ∧ Below w.heap.size w w' :=
  main A0 c0 l A2 c2 ls w hr0 hc0 hr2 hc2 (by omega) (by omega) (Pure.bytes_of_wf hb) (fun x hx => Pure.i64_of_wf (hf x hx).2)
end Go.Proofs.Ytbfchmfanbeocaa.WOctetReads
