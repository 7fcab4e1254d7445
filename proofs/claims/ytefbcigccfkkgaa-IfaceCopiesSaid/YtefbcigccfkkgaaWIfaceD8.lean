import Derived.Test.YtefbcigccfkkgaaWIfaceDB
set_option linter.unusedVariables false
set_option linter.unusedSimpArgs false
namespace Go.Proofs.Ytefbcigccfkkgaa.WIf
open Go.RowKit Go.Maps Go.WideMaps Go.Proofs.Ytefbcigccfkkgaa.PBase Go.Proofs.YtefbcigccfkkgaaW.PrintWords Go.Proofs.YtefbcigccfkkgaaW.PrintLast Go.Proofs.YtefbcigccfkkgaaW.PrintMore Go.Proofs.Ytefbcigccfkkgaa.If
attribute [local go_sem] max2_int min2_int max_two min_two
attribute [local go_sem] undef
def Fst (ls : List Lo) (a : Ad) (m : Nat) (b : Int) : Prop :=
  (b = -1 ∧ best ls a = zeroL ∧ ∀ (i : Nat) l, i < m → ls[i]? = some l → l.f0.f0 ≠ a.f0) ∨ ∃ (j : Nat) (l : Lo), b = j ∧ ls[j]? = some l ∧ (l.f0, true) = srcR (best ls a) (famN ls a.f0)
theorem fst_of {ls : List Lo} {a : Ad} {b : Int} (h : Bst ls a ls.length b) : Fst ls a 0 b := by
  unfold Bst at h
  rw [List.take_of_length_le (Nat.le_refl _)] at h
  rcases h with ⟨h1, h2⟩ | ⟨j, o, h1, h2, h3, h4⟩
  · exact .inl ⟨h1, h2, fun i l hi => by omega⟩
  · refine .inr ⟨j, o, h1, h2, ?_⟩
    rw [show best ls a = o from h4]
    exact srcR_best (by omega)
theorem fst_found {ls : List Lo} {a : Ad} {m : Nat} {l : Lo} (hz : best ls a = zeroL) (hno : ∀ (i : Nat) l, i < m → ls[i]? = some l → l.f0.f0 ≠ a.f0) (hl : ls[m]? = some l) (h6 : l.f0.f0 = a.f0) : Fst ls a (m + 1) m := by
  refine .inr ⟨m, l, rfl, hl, ?_⟩
  rw [fam_some hl h6 hno, hz]
  exact srcR_some (Int.le_refl _)
theorem fst_more {ls : List Lo} {a : Ad} {m : Nat} {l : Lo} (hz : best ls a = zeroL) (hno : ∀ (i : Nat) l, i < m → ls[i]? = some l → l.f0.f0 ≠ a.f0) (hl : ls[m]? = some l) (h6 : l.f0.f0 ≠ a.f0) : Fst ls a (m + 1) (-1) := by
  refine .inl ⟨rfl, hz, fun i l' hi hl' => ?_⟩
  rcases Nat.lt_or_ge i m with q | q
  · exact hno i l' q hl'
  · obtain rfl : i = m := by omega
    rw [hl] at hl'
    obtain rfl := Option.some.inj hl'
    exact h6
section
variable {w : World} {S : Nat → Prop} {db : Nat} {v1 v2 : Value} {ls : List Sl} {st : St}
set_option maxHeartbeats 8000000 in
set_option maxRecDepth 100000 in
theorem dsource_done (h : Dem w S db v1 v2 ls st) (h8 : st.length ≤ 8) (n : Int) (a : Ad) (ha : AdOk a) {i : Nat} (hn : at? st n = some i) (hva : validB a = true) {p : Pt} (hp : st[i]? = some p) (hp8 : p.ls.length ≤ 8) (hR : ∀ l ∈ p.ls, AdOk l.f0 ∧ mayB l.f0 l.f1 = true) :
    Calls Try.prog 37 #[.pointer (some ⟨db, 0, none⟩), .int .i64 n, .agg (adA a)] w fun e w' => (∃ r : Ad × Bool, e = .returned (.tuple #[.agg (adA r.1), .bool r.2]) ∧ r = srcR (best p.ls a) (famN p.ls a.f0)) ∧ Below w.heap.size w w' := by
  have hu25 := Try.underlying25
  have hu34 := Try.underlying34
  have HB := Aside0.mk (Below.refl w.heap.size w)
  have hval := fun W => crosswayref03_Valid.calls a.f0 a.f1 a.f2 (validB a) W (rvalid_some a)
  rw [hva] at hval
  have hth := fun W (hW : Dem W S db v1 v2 ls st) => there_calls hW h8 n
  rw [hn] at hth
  obtain ⟨hi, hni⟩ := at_lt hn
  obtain ⟨x0, x1⟩ := MBlk.c2 h.blk
  obtain ⟨yl, lb, cl, hyl, hvl, hSl, lcell, lfree⟩ := datL h hi
  rw [hvl] at x1
  obtain ⟨A, cA, el, hC⟩ := RL.reads (h.like i p yl hp hyl)
  rw [el] at lcell
  obtain ⟨y, hy⟩ : ∃ y : Int, (i : Int) = y := ⟨_, rfl⟩
  have hyi : y.toNat = i := by omega
  have hw : wrap64 (n - 1) = y := by unfold wrap64; omega
  have z1 : (0 ≤ y) = True := eq_true (by omega)
  have q1 : (y < (st.length : Int)) = True := eq_true (by omega)
  have hhold := fun l (hl : AdOk l.f0 ∧ mayB l.f0 l.f1 = true) W => dholds_calls l a hl ha W
  have HRG := Aside0.mk hR
  have hlen : (p.ls.length : Int) ≤ 8 := by omega
  clear lfree hni hy hi hp hyl hvl hn el hR hva
  go_enter Try.func37, Try.ntmps37
  go_wp2_with (first | ((with_reducible refine gate_dst (N := 5) rfl ?_); refine sh_E 5 25 (adA a) ?_; intro g5 hg w1 hbox hb; have GE5 := sh_G HB hg; replace HB := sh_S HB hb; have HM := Aside0.mk (h.below hb); have BK5 := Aside0.mk hbox; obtain ⟨d0, d1, d2⟩ := MBlk.c3 hbox; replace x1 := pw_cell_below hb x1; replace lcell := pw_cell_below hb lcell; replace hC := Kd.C_below hC hb; clear hbox hb hg) | ((with_reducible refine gate_dst (N := 6) rfl ?_); refine sh_E 6 25 (adA zeroA) ?_; intro g6 hg w2 hbox hb; have GE6 := sh_G HB hg; replace HB := sh_S HB hb; replace HM := Aside0.mk (HM.out.below hb); have BK6 := Aside0.mk hbox; replace BK5 := sh_L BK5 hb; replace d0 := pw_cell_below hb d0; replace d1 := pw_cell_below hb d1; replace d2 := pw_cell_below hb d2; replace x1 := pw_cell_below hb x1; replace lcell := pw_cell_below hb lcell; replace hC := Kd.C_below hC hb; clear hbox hb hg) | fail)
  refine Calls.mono (hval _) ?_
  rintro e w3 ⟨rfl, hb⟩
  have HSS := Aside0.mk ((show Ss w w2 g5 g6 a from ⟨BK5.out, BK6.out, ⟨GE5.out, GE6.out⟩, HB.out⟩).below hb)
  replace HM := Aside0.mk (HM.out.below hb)
  replace x1 := pw_cell_below hb x1
  replace lcell := pw_cell_below hb lcell
  replace hC := Kd.C_below hC hb
  clear hb d0 d1 d2 BK5 BK6 GE5 GE6 HB h
  go_wp2_with fail
  refine Calls.mono (hth _ HM.out) ?_
  rintro e w' ⟨rfl, rfl⟩
  have HC := Aside0.mk hC
  clear hC hth
  go_wp2_with fail
  clear x0 x1 lcell
  try simp only [hw]
  clear hw
  go_loopg [10, 11] p.ls.length (fun kq v10 v11 w' => ∃ (k : Nat) (b : Int), v10 = .int .i64 b ∧ v11 = .int .i64 (k : Int) ∧ Aside0 (k + kq = p.ls.length ∧ Bst p.ls a k b) ∧ Aside0 (Ss w w' g5 g6 a) ∧ Aside0 (Below w3.heap.size w3 w'))
  case atStart => exact ⟨0, -1, rfl, rfl, ⟨by omega, .inl ⟨rfl, rfl⟩⟩, HSS, ⟨Below.refl _ _⟩⟩
  case round =>
    clear HSS
    obtain ⟨k, b, rfl, rfl, HK, HS, HC1⟩ := hrel
    have HCA := HC
    clear HC
    have HC := HC1
    clear HC1
    by_cases hk : k < p.ls.length
    · obtain ⟨l, hl⟩ : ∃ l, p.ls[k]? = some l := ⟨_, List.getElem?_eq_getElem hk⟩
      have HCC := Aside0.mk (Kd.C_below HCA.out HC.out)
      obtain ⟨ad, e, z0, zz1, z2, z3⟩ := at_T34 HCC.out (k : Int) (by omega) (by omega)
      have hrd : rd_T34 p.ls (k : Int) = l := by
        unfold rd_T34
        rw [Int.toNat_natCast, List.getD_eq_getElem?_getD, hl, Option.getD_some]
      rw [hrd] at z0 zz1 z2 z3
      subst e
      have HGET := Aside0.mk hl
      have hcall : ∀ W, Calls Try.prog 57 #[.agg #[.bool l.f0.f0, .int .u64 l.f0.f1, .int .u64 l.f0.f2, .int .i64 l.f1], .agg #[.bool a.f0, .int .u64 a.f1, .int .u64 a.f2]] W fun e W' => e = .returned (.bool (holdsB l a)) ∧ Below W.heap.size W W' := hhold l (HRG.out l (List.mem_of_getElem? hl))
      have HPOS := Aside0.mk (may_pos (HRG.out l (List.mem_of_getElem? hl)).2)
      obtain ⟨t, ht⟩ : ∃ t : Int, (k : Int) = t := ⟨_, rfl⟩
      rw [ht] at z0 zz1 z2 z3 ⊢
      have HT := Aside0.mk ht
      have b2 : decide (t < (p.ls.length : Int)) = true := decide_eq_true (by omega)
      have p2 : (0 ≤ t) = True := eq_true (by omega)
      have q2 : (t < (p.ls.length : Int)) = True := eq_true (by omega)
      have htw : wrap64 (t + 1) = ((k + 1 : Nat) : Int) := by unfold wrap64; omega
      have HTW := Aside0.mk htw
      obtain ⟨d0, d1, d2⟩ := MBlk.c3 HS.out.b5
      obtain ⟨gk, rfl⟩ : ∃ q, gk = q + 1 := ⟨gk - 1, by have := HK.out.1; omega⟩
      clear hl ht htw hk hrd
      have HTT : ∀ c : Int, ((k + 1 : Nat) : Int) = c → Value.int .i64 c = .int .i64 (((k + 1 : Nat)) : Int) := fun c q => by rw [q]
      cases hh : holdsB l a with
      | false =>
        rw [hh] at hcall
        have HH := Aside0.mk hh
        clear hh
        go_wp2_with fail
        refine start_ (n := 23) (S := fun W => W.cell? ⟨g5, 0, none⟩ = some (.bool a.f0) ∧ W.cell? ⟨g5, 1, none⟩ = some (.int .u64 a.f1) ∧ W.cell? ⟨g5, 2, none⟩ = some (.int .u64 a.f2) ∧ W.cell? (ad.add (t.toNat * 4)) = some (.bool l.f0.f0) ∧ W.cell? ⟨(ad.add (t.toNat * 4)).block, (ad.add (t.toNat * 4)).off + 1, none⟩ = some (.int .u64 l.f0.f1) ∧ W.cell? ⟨(ad.add (t.toNat * 4)).block, (ad.add (t.toNat * 4)).off + 2, none⟩ = some (.int .u64 l.f0.f2) ∧ W.cell? ⟨(ad.add (t.toNat * 4)).block, (ad.add (t.toNat * 4)).off + 3, none⟩ = some (.int .i64 l.f1)) (ds := []) #[false, false, false, false, false, false, false, false, false, false, false, false, false, false, false, false, false, false, false, false, false, false, false] (by kernel_rfl) rfl rfl ⟨d0, d1, d2, z0, zz1, z2, z3⟩ (fun hHeld => ?_)
        refine pure_ (i := 0) (N := some 38) (v := ?_) (a' := ?_) #[true, false, false, false, false, false, false, false, false, false, false, false, false, false, false, false, false, false, false, false, false, false, false] rfl rfl (by kernel_rfl) (fun _ _ _ h => h) (Or.inl ⟨by rfl, ?_⟩) ?_ ?_
        rotate_left
        ·
         intro w'
         go_simp
         with_reducible rfl
        rotate_left
        ·
         simp only [Act.put, List.setIfInBounds_toArray, List.set_cons_zero, List.set_cons_succ, i64_w, i32_w]
         rfl
        refine pure_ (i := 1) (N := some 39) (v := ?_) (a' := ?_) #[true, true, false, false, false, false, false, false, false, false, false, false, false, false, false, false, false, false, false, false, false, false, false] rfl rfl (by kernel_rfl) (fun _ _ _ h => h) (Or.inl ⟨by rfl, ?_⟩) ?_ ?_
        rotate_left
        ·
         intro w'
         go_simp
         with_reducible rfl
        rotate_left
        ·
         simp only [Act.put, List.setIfInBounds_toArray, List.set_cons_zero, List.set_cons_succ, i64_w, i32_w]
         rfl
        refine pure_ (i := 2) (N := some 40) (v := ?_) (a' := ?_) #[true, true, true, false, false, false, false, false, false, false, false, false, false, false, false, false, false, false, false, false, false, false, false] rfl rfl (by kernel_rfl) (fun _ _ _ h => h) (Or.inl ⟨by rfl, ?_⟩) ?_ ?_
        rotate_left
        ·
         intro w'
         go_simp
         with_reducible rfl
        rotate_left
        ·
         simp only [Act.put, List.setIfInBounds_toArray, List.set_cons_zero, List.set_cons_succ, i64_w, i32_w]
         rfl
        refine take_ (i := 3) (N := some 41) (v := ?_) (a' := ?_) #[true, true, true, true, false, false, false, false, false, false, false, false, false, false, false, false, false, false, false, false, false, false, false] rfl rfl (by kernel_rfl) (fun _ _ _ h => h) (Or.inl ⟨by rfl, ?_⟩) hHeld ?_ ?_
        rotate_left
        ·
         rintro w' ⟨s0, s1, s2, s3, s4, s5, s6⟩
         go_simp
         with_reducible rfl
        rotate_left
        ·
         simp only [Act.put, List.setIfInBounds_toArray, List.set_cons_zero, List.set_cons_succ, i64_w, i32_w]
         rfl
        refine take_ (i := 4) (N := some 42) (v := ?_) (a' := ?_) #[true, true, true, true, true, false, false, false, false, false, false, false, false, false, false, false, false, false, false, false, false, false, false] rfl rfl (by kernel_rfl) (fun _ _ _ h => h) (Or.inl ⟨by rfl, ?_⟩) hHeld ?_ ?_
        rotate_left
        ·
         rintro w' ⟨s0, s1, s2, s3, s4, s5, s6⟩
         go_simp
         with_reducible rfl
        rotate_left
        ·
         simp only [Act.put, List.setIfInBounds_toArray, List.set_cons_zero, List.set_cons_succ, i64_w, i32_w]
         rfl
        refine one_ (i := 5) (N := some 43) #[true, true, true, true, true, true, false, false, false, false, false, false, false, false, false, false, false, false, false, false, false, false, false] rfl rfl (by kernel_rfl) (by decide) (fun K hK => ?_)
        refine goes_ Try.func57 (by kernel_rfl) rfl #[.agg #[.bool l.f0.f0, .int .u64 l.f0.f1, .int .u64 l.f0.f2, .int .i64 l.f1], .agg #[.bool a.f0, .int .u64 a.f1, .int .u64 a.f2]] (by rfl) rfl rfl (by (try simp only [List.map_toArray, List.map_cons, List.map_nil]); first | done | rfl) ?_
        with_reducible refine (hcall _).mono ?_
        rintro e w2 ⟨rfl, hb⟩
        refine ⟨_, rfl, ?_⟩
        have HC2 := Aside0.mk (below_step (below_drew1 HC.out) hb)
        have HS2 := Aside0.mk ((Ss.below HS.out (below_drew1 (Below.refl _ _))).below hb)
        have HD := Aside0.mk (show Below wr.heap.size wr w2 from ⟨hb.os, hb.tape, hb.output, hb.size, hb.block⟩)
        clear hb
        refine hK.out _ _ ⟨pw_cell_below HD.out d0, pw_cell_below HD.out d1, pw_cell_below HD.out d2, pw_cell_below HD.out z0, pw_cell_below HD.out zz1, pw_cell_below HD.out z2, pw_cell_below HD.out z3⟩ (fun hHeld => ?_)
        clear hK K d0 d1 d2 z0 zz1 z2 z3
        refine norm_ (a' := ?_) ?_ ?_
        rotate_left
        ·
          show Act.put _ (some 43) _ = _
          simp only [Act.put, List.setIfInBounds_toArray, List.set_cons_zero, List.set_cons_succ, i64_w, i32_w]
          rfl
        refine pure_ (i := 6) (N := some 44) (v := ?_) (a' := ?_) #[true, true, true, true, true, true, true, false, false, false, false, false, false, false, false, false, false, false, false, false, false, false, false] rfl rfl (by kernel_rfl) (fun _ _ _ h => h) (Or.inl ⟨by rfl, ?_⟩) ?_ ?_
        rotate_left
        ·
         intro w'
         go_simp
         with_reducible rfl
        rotate_left
        ·
         simp only [Act.put, List.setIfInBounds_toArray, List.set_cons_zero, List.set_cons_succ, i64_w, i32_w]
         rfl
        refine pure_ (i := 7) (N := some 45) (v := undef) (a' := ?_) #[true, true, true, true, true, true, true, true, false, false, false, false, false, false, false, false, false, false, false, false, false, false, false] rfl rfl (by kernel_rfl) (fun _ _ _ h => h) (Or.inr ⟨by rfl, rfl⟩) ?_ ?_
        rotate_left
        ·
         simp only [Act.put, List.setIfInBounds_toArray, List.set_cons_zero, List.set_cons_succ, i64_w, i32_w]
         rfl
        refine pure_ (i := 8) (N := some 46) (v := undef) (a' := ?_) #[true, true, true, true, true, true, true, true, true, false, false, false, false, false, false, false, false, false, false, false, false, false, false] rfl rfl (by kernel_rfl) (fun _ _ _ h => h) (Or.inr ⟨by rfl, rfl⟩) ?_ ?_
        rotate_left
        ·
         simp only [Act.put, List.setIfInBounds_toArray, List.set_cons_zero, List.set_cons_succ, i64_w, i32_w]
         rfl
        refine pure_ (i := 9) (N := some 47) (v := undef) (a' := ?_) #[true, true, true, true, true, true, true, true, true, true, false, false, false, false, false, false, false, false, false, false, false, false, false] rfl rfl (by kernel_rfl) (fun _ _ _ h => h) (Or.inr ⟨by rfl, rfl⟩) ?_ ?_
        rotate_left
        ·
         simp only [Act.put, List.setIfInBounds_toArray, List.set_cons_zero, List.set_cons_succ, i64_w, i32_w]
         rfl
        refine pure_ (i := 10) (N := some 48) (v := undef) (a' := ?_) #[true, true, true, true, true, true, true, true, true, true, true, false, false, false, false, false, false, false, false, false, false, false, false] rfl rfl (by kernel_rfl) (fun _ _ _ h => h) (Or.inr ⟨by rfl, rfl⟩) ?_ ?_
        rotate_left
        ·
         simp only [Act.put, List.setIfInBounds_toArray, List.set_cons_zero, List.set_cons_succ, i64_w, i32_w]
         rfl
        refine pure_ (i := 11) (N := some 49) (v := undef) (a' := ?_) #[true, true, true, true, true, true, true, true, true, true, true, true, false, false, false, false, false, false, false, false, false, false, false] rfl rfl (by kernel_rfl) (fun _ _ _ h => h) (Or.inr ⟨by rfl, rfl⟩) ?_ ?_
        rotate_left
        ·
         simp only [Act.put, List.setIfInBounds_toArray, List.set_cons_zero, List.set_cons_succ, i64_w, i32_w]
         rfl
        refine pure_ (i := 12) (N := some 50) (v := undef) (a' := ?_) #[true, true, true, true, true, true, true, true, true, true, true, true, true, false, false, false, false, false, false, false, false, false, false] rfl rfl (by kernel_rfl) (fun _ _ _ h => h) (Or.inr ⟨by rfl, rfl⟩) ?_ ?_
        rotate_left
        ·
         simp only [Act.put, List.setIfInBounds_toArray, List.set_cons_zero, List.set_cons_succ, i64_w, i32_w]
         rfl
        refine pure_ (i := 13) (N := some 51) (v := undef) (a' := ?_) #[true, true, true, true, true, true, true, true, true, true, true, true, true, true, false, false, false, false, false, false, false, false, false] rfl rfl (by kernel_rfl) (fun _ _ _ h => h) (Or.inr ⟨by rfl, rfl⟩) ?_ ?_
        rotate_left
        ·
         simp only [Act.put, List.setIfInBounds_toArray, List.set_cons_zero, List.set_cons_succ, i64_w, i32_w]
         rfl
        refine take_ (i := 14) (N := some 52) (v := undef) (a' := ?_) #[true, true, true, true, true, true, true, true, true, true, true, true, true, true, true, false, false, false, false, false, false, false, false] rfl rfl (by kernel_rfl) (fun _ _ _ h => h) (Or.inr ⟨by rfl, rfl⟩) hHeld ?_ ?_
        rotate_left
        ·
         simp only [Act.put, List.setIfInBounds_toArray, List.set_cons_zero, List.set_cons_succ, i64_w, i32_w]
         rfl
        refine pure_ (i := 15) (N := some 53) (v := undef) (a' := ?_) #[true, true, true, true, true, true, true, true, true, true, true, true, true, true, true, true, false, false, false, false, false, false, false] rfl rfl (by kernel_rfl) (fun _ _ _ h => h) (Or.inr ⟨by rfl, rfl⟩) ?_ ?_
        rotate_left
        ·
         simp only [Act.put, List.setIfInBounds_toArray, List.set_cons_zero, List.set_cons_succ, i64_w, i32_w]
         rfl
        refine pure_ (i := 16) (N := some 54) (v := undef) (a' := ?_) #[true, true, true, true, true, true, true, true, true, true, true, true, true, true, true, true, true, false, false, false, false, false, false] rfl rfl (by kernel_rfl) (fun _ _ _ h => h) (Or.inr ⟨by rfl, rfl⟩) ?_ ?_
        rotate_left
        ·
         simp only [Act.put, List.setIfInBounds_toArray, List.set_cons_zero, List.set_cons_succ, i64_w, i32_w]
         rfl
        refine pure_ (i := 17) (N := some 55) (v := undef) (a' := ?_) #[true, true, true, true, true, true, true, true, true, true, true, true, true, true, true, true, true, true, false, false, false, false, false] rfl rfl (by kernel_rfl) (fun _ _ _ h => h) (Or.inr ⟨by rfl, rfl⟩) ?_ ?_
        rotate_left
        ·
         simp only [Act.put, List.setIfInBounds_toArray, List.set_cons_zero, List.set_cons_succ, i64_w, i32_w]
         rfl
        refine pure_ (i := 18) (N := some 56) (v := undef) (a' := ?_) #[true, true, true, true, true, true, true, true, true, true, true, true, true, true, true, true, true, true, true, false, false, false, false] rfl rfl (by kernel_rfl) (fun _ _ _ h => h) (Or.inr ⟨by rfl, rfl⟩) ?_ ?_
        rotate_left
        ·
         simp only [Act.put, List.setIfInBounds_toArray, List.set_cons_zero, List.set_cons_succ, i64_w, i32_w]
         rfl
        refine take_ (i := 19) (N := some 57) (v := undef) (a' := ?_) #[true, true, true, true, true, true, true, true, true, true, true, true, true, true, true, true, true, true, true, true, false, false, false] rfl rfl (by kernel_rfl) (fun _ _ _ h => h) (Or.inr ⟨by rfl, rfl⟩) hHeld ?_ ?_
        rotate_left
        ·
         simp only [Act.put, List.setIfInBounds_toArray, List.set_cons_zero, List.set_cons_succ, i64_w, i32_w]
         rfl
        refine pure_ (i := 20) (N := some 58) (v := undef) (a' := ?_) #[true, true, true, true, true, true, true, true, true, true, true, true, true, true, true, true, true, true, true, true, true, false, false] rfl rfl (by kernel_rfl) (fun _ _ _ h => h) (Or.inr ⟨by rfl, rfl⟩) ?_ ?_
        rotate_left
        ·
         simp only [Act.put, List.setIfInBounds_toArray, List.set_cons_zero, List.set_cons_succ, i64_w, i32_w]
         rfl
        refine pure_ (i := 21) (N := some 59) (v := undef) (a' := ?_) #[true, true, true, true, true, true, true, true, true, true, true, true, true, true, true, true, true, true, true, true, true, true, false] rfl rfl (by kernel_rfl) (fun _ _ _ h => h) (Or.inr ⟨by rfl, rfl⟩) ?_ ?_
        rotate_left
        ·
         simp only [Act.put, List.setIfInBounds_toArray, List.set_cons_zero, List.set_cons_succ, i64_w, i32_w]
         rfl
        refine pure_ (i := 22) (N := some 60) (v := ?_) (a' := ?_) #[true, true, true, true, true, true, true, true, true, true, true, true, true, true, true, true, true, true, true, true, true, true, true] rfl rfl (by kernel_rfl) (fun _ _ _ h => h) (Or.inl ⟨by rfl, ?_⟩) ?_ ?_
        rotate_left
        ·
         intro w'
         go_simp
         with_reducible rfl
        rotate_left
        ·
         simp only [Act.put, List.setIfInBounds_toArray, List.set_cons_zero, List.set_cons_succ, i64_w, i32_w]
         rfl
        refine done_ (by kernel_rfl) ?_
        go_wp2
        go_roundg gk
        case measure => omega
        case rel => exact ⟨k + 1, b, rfl, by first | rw [HTW.out] | exact congrArg _ (by have := HT.out; omega), ⟨by have := HK.out.1; omega, bst_no HK.out.2 HGET.out HH.out⟩, HS2, HC2⟩
      | true =>
        rw [hh] at hcall
        have HH := Aside0.mk hh
        clear hh
        have hbst := HK.out.2
        unfold Bst at hbst
        rcases hbst with ⟨hb1, hfold⟩ | ⟨j, o, hbj, hj, ho1, hfold⟩
        · subst hb1
          have HF := Aside0.mk hfold
          clear hfold
          go_wp2_with fail
          refine start_ (n := 23) (S := fun W => W.cell? ⟨g5, 0, none⟩ = some (.bool a.f0) ∧ W.cell? ⟨g5, 1, none⟩ = some (.int .u64 a.f1) ∧ W.cell? ⟨g5, 2, none⟩ = some (.int .u64 a.f2) ∧ W.cell? (ad.add (t.toNat * 4)) = some (.bool l.f0.f0) ∧ W.cell? ⟨(ad.add (t.toNat * 4)).block, (ad.add (t.toNat * 4)).off + 1, none⟩ = some (.int .u64 l.f0.f1) ∧ W.cell? ⟨(ad.add (t.toNat * 4)).block, (ad.add (t.toNat * 4)).off + 2, none⟩ = some (.int .u64 l.f0.f2) ∧ W.cell? ⟨(ad.add (t.toNat * 4)).block, (ad.add (t.toNat * 4)).off + 3, none⟩ = some (.int .i64 l.f1)) (ds := []) #[false, false, false, false, false, false, false, false, false, false, false, false, false, false, false, false, false, false, false, false, false, false, false] (by kernel_rfl) rfl rfl ⟨d0, d1, d2, z0, zz1, z2, z3⟩ (fun hHeld => ?_)
          refine pure_ (i := 0) (N := some 38) (v := ?_) (a' := ?_) #[true, false, false, false, false, false, false, false, false, false, false, false, false, false, false, false, false, false, false, false, false, false, false] rfl rfl (by kernel_rfl) (fun _ _ _ h => h) (Or.inl ⟨by rfl, ?_⟩) ?_ ?_
          rotate_left
          ·
           intro w'
           go_simp
           with_reducible rfl
          rotate_left
          ·
           simp only [Act.put, List.setIfInBounds_toArray, List.set_cons_zero, List.set_cons_succ, i64_w, i32_w]
           rfl
          refine pure_ (i := 1) (N := some 39) (v := ?_) (a' := ?_) #[true, true, false, false, false, false, false, false, false, false, false, false, false, false, false, false, false, false, false, false, false, false, false] rfl rfl (by kernel_rfl) (fun _ _ _ h => h) (Or.inl ⟨by rfl, ?_⟩) ?_ ?_
          rotate_left
          ·
           intro w'
           go_simp
           with_reducible rfl
          rotate_left
          ·
           simp only [Act.put, List.setIfInBounds_toArray, List.set_cons_zero, List.set_cons_succ, i64_w, i32_w]
           rfl
          refine pure_ (i := 2) (N := some 40) (v := ?_) (a' := ?_) #[true, true, true, false, false, false, false, false, false, false, false, false, false, false, false, false, false, false, false, false, false, false, false] rfl rfl (by kernel_rfl) (fun _ _ _ h => h) (Or.inl ⟨by rfl, ?_⟩) ?_ ?_
          rotate_left
          ·
           intro w'
           go_simp
           with_reducible rfl
          rotate_left
          ·
           simp only [Act.put, List.setIfInBounds_toArray, List.set_cons_zero, List.set_cons_succ, i64_w, i32_w]
           rfl
          refine take_ (i := 3) (N := some 41) (v := ?_) (a' := ?_) #[true, true, true, true, false, false, false, false, false, false, false, false, false, false, false, false, false, false, false, false, false, false, false] rfl rfl (by kernel_rfl) (fun _ _ _ h => h) (Or.inl ⟨by rfl, ?_⟩) hHeld ?_ ?_
          rotate_left
          ·
           rintro w' ⟨s0, s1, s2, s3, s4, s5, s6⟩
           go_simp
           with_reducible rfl
          rotate_left
          ·
           simp only [Act.put, List.setIfInBounds_toArray, List.set_cons_zero, List.set_cons_succ, i64_w, i32_w]
           rfl
          refine take_ (i := 4) (N := some 42) (v := ?_) (a' := ?_) #[true, true, true, true, true, false, false, false, false, false, false, false, false, false, false, false, false, false, false, false, false, false, false] rfl rfl (by kernel_rfl) (fun _ _ _ h => h) (Or.inl ⟨by rfl, ?_⟩) hHeld ?_ ?_
          rotate_left
          ·
           rintro w' ⟨s0, s1, s2, s3, s4, s5, s6⟩
           go_simp
           with_reducible rfl
          rotate_left
          ·
           simp only [Act.put, List.setIfInBounds_toArray, List.set_cons_zero, List.set_cons_succ, i64_w, i32_w]
           rfl
          refine one_ (i := 5) (N := some 43) #[true, true, true, true, true, true, false, false, false, false, false, false, false, false, false, false, false, false, false, false, false, false, false] rfl rfl (by kernel_rfl) (by decide) (fun K hK => ?_)
          refine goes_ Try.func57 (by kernel_rfl) rfl #[.agg #[.bool l.f0.f0, .int .u64 l.f0.f1, .int .u64 l.f0.f2, .int .i64 l.f1], .agg #[.bool a.f0, .int .u64 a.f1, .int .u64 a.f2]] (by rfl) rfl rfl (by (try simp only [List.map_toArray, List.map_cons, List.map_nil]); first | done | rfl) ?_
          with_reducible refine (hcall _).mono ?_
          rintro e w2 ⟨rfl, hb⟩
          refine ⟨_, rfl, ?_⟩
          have HC2 := Aside0.mk (below_step (below_drew1 HC.out) hb)
          have HS2 := Aside0.mk ((Ss.below HS.out (below_drew1 (Below.refl _ _))).below hb)
          have HD := Aside0.mk (show Below wr.heap.size wr w2 from ⟨hb.os, hb.tape, hb.output, hb.size, hb.block⟩)
          clear hb
          refine hK.out _ _ ⟨pw_cell_below HD.out d0, pw_cell_below HD.out d1, pw_cell_below HD.out d2, pw_cell_below HD.out z0, pw_cell_below HD.out zz1, pw_cell_below HD.out z2, pw_cell_below HD.out z3⟩ (fun hHeld => ?_)
          clear hK K d0 d1 d2 z0 zz1 z2 z3
          refine norm_ (a' := ?_) ?_ ?_
          rotate_left
          ·
            show Act.put _ (some 43) _ = _
            simp only [Act.put, List.setIfInBounds_toArray, List.set_cons_zero, List.set_cons_succ, i64_w, i32_w]
            rfl
          refine pure_ (i := 6) (N := some 44) (v := ?_) (a' := ?_) #[true, true, true, true, true, true, true, false, false, false, false, false, false, false, false, false, false, false, false, false, false, false, false] rfl rfl (by kernel_rfl) (fun _ _ _ h => h) (Or.inl ⟨by rfl, ?_⟩) ?_ ?_
          rotate_left
          ·
           intro w'
           go_simp
           with_reducible rfl
          rotate_left
          ·
           simp only [Act.put, List.setIfInBounds_toArray, List.set_cons_zero, List.set_cons_succ, i64_w, i32_w]
           rfl
          refine pure_ (i := 7) (N := some 45) (v := ?_) (a' := ?_) #[true, true, true, true, true, true, true, true, false, false, false, false, false, false, false, false, false, false, false, false, false, false, false] rfl rfl (by kernel_rfl) (fun _ _ _ h => h) (Or.inl ⟨by rfl, ?_⟩) ?_ ?_
          rotate_left
          ·
           intro w'
           go_simp
           with_reducible rfl
          rotate_left
          ·
           simp only [Act.put, List.setIfInBounds_toArray, List.set_cons_zero, List.set_cons_succ, i64_w, i32_w]
           rfl
          refine pure_ (i := 8) (N := some 46) (v := ?_) (a' := ?_) #[true, true, true, true, true, true, true, true, true, false, false, false, false, false, false, false, false, false, false, false, false, false, false] rfl rfl (by kernel_rfl) (fun _ _ _ h => h) (Or.inl ⟨by rfl, ?_⟩) ?_ ?_
          rotate_left
          ·
           intro w'
           go_simp
           with_reducible rfl
          rotate_left
          ·
           simp only [Act.put, List.setIfInBounds_toArray, List.set_cons_zero, List.set_cons_succ, i64_w, i32_w]
           rfl
          refine pure_ (i := 9) (N := some 47) (v := ?_) (a' := ?_) #[true, true, true, true, true, true, true, true, true, true, false, false, false, false, false, false, false, false, false, false, false, false, false] rfl rfl (by kernel_rfl) (fun _ _ _ h => h) (Or.inl ⟨by rfl, ?_⟩) ?_ ?_
          rotate_left
          ·
           intro w'
           go_simp
           with_reducible rfl
          rotate_left
          ·
           simp only [Act.put, List.setIfInBounds_toArray, List.set_cons_zero, List.set_cons_succ, i64_w, i32_w]
           rfl
          refine pure_ (i := 10) (N := some 48) (v := undef) (a' := ?_) #[true, true, true, true, true, true, true, true, true, true, true, false, false, false, false, false, false, false, false, false, false, false, false] rfl rfl (by kernel_rfl) (fun _ _ _ h => h) (Or.inr ⟨by rfl, rfl⟩) ?_ ?_
          rotate_left
          ·
           simp only [Act.put, List.setIfInBounds_toArray, List.set_cons_zero, List.set_cons_succ, i64_w, i32_w]
           rfl
          refine pure_ (i := 11) (N := some 49) (v := undef) (a' := ?_) #[true, true, true, true, true, true, true, true, true, true, true, true, false, false, false, false, false, false, false, false, false, false, false] rfl rfl (by kernel_rfl) (fun _ _ _ h => h) (Or.inr ⟨by rfl, rfl⟩) ?_ ?_
          rotate_left
          ·
           simp only [Act.put, List.setIfInBounds_toArray, List.set_cons_zero, List.set_cons_succ, i64_w, i32_w]
           rfl
          refine pure_ (i := 12) (N := some 50) (v := undef) (a' := ?_) #[true, true, true, true, true, true, true, true, true, true, true, true, true, false, false, false, false, false, false, false, false, false, false] rfl rfl (by kernel_rfl) (fun _ _ _ h => h) (Or.inr ⟨by rfl, rfl⟩) ?_ ?_
          rotate_left
          ·
           simp only [Act.put, List.setIfInBounds_toArray, List.set_cons_zero, List.set_cons_succ, i64_w, i32_w]
           rfl
          refine pure_ (i := 13) (N := some 51) (v := undef) (a' := ?_) #[true, true, true, true, true, true, true, true, true, true, true, true, true, true, false, false, false, false, false, false, false, false, false] rfl rfl (by kernel_rfl) (fun _ _ _ h => h) (Or.inr ⟨by rfl, rfl⟩) ?_ ?_
          rotate_left
          ·
           simp only [Act.put, List.setIfInBounds_toArray, List.set_cons_zero, List.set_cons_succ, i64_w, i32_w]
           rfl
          refine take_ (i := 14) (N := some 52) (v := undef) (a' := ?_) #[true, true, true, true, true, true, true, true, true, true, true, true, true, true, true, false, false, false, false, false, false, false, false] rfl rfl (by kernel_rfl) (fun _ _ _ h => h) (Or.inr ⟨by rfl, rfl⟩) hHeld ?_ ?_
          rotate_left
          ·
           simp only [Act.put, List.setIfInBounds_toArray, List.set_cons_zero, List.set_cons_succ, i64_w, i32_w]
           rfl
          refine pure_ (i := 15) (N := some 53) (v := undef) (a' := ?_) #[true, true, true, true, true, true, true, true, true, true, true, true, true, true, true, true, false, false, false, false, false, false, false] rfl rfl (by kernel_rfl) (fun _ _ _ h => h) (Or.inr ⟨by rfl, rfl⟩) ?_ ?_
          rotate_left
          ·
           simp only [Act.put, List.setIfInBounds_toArray, List.set_cons_zero, List.set_cons_succ, i64_w, i32_w]
           rfl
          refine pure_ (i := 16) (N := some 54) (v := undef) (a' := ?_) #[true, true, true, true, true, true, true, true, true, true, true, true, true, true, true, true, true, false, false, false, false, false, false] rfl rfl (by kernel_rfl) (fun _ _ _ h => h) (Or.inr ⟨by rfl, rfl⟩) ?_ ?_
          rotate_left
          ·
           simp only [Act.put, List.setIfInBounds_toArray, List.set_cons_zero, List.set_cons_succ, i64_w, i32_w]
           rfl
          refine pure_ (i := 17) (N := some 55) (v := undef) (a' := ?_) #[true, true, true, true, true, true, true, true, true, true, true, true, true, true, true, true, true, true, false, false, false, false, false] rfl rfl (by kernel_rfl) (fun _ _ _ h => h) (Or.inr ⟨by rfl, rfl⟩) ?_ ?_
          rotate_left
          ·
           simp only [Act.put, List.setIfInBounds_toArray, List.set_cons_zero, List.set_cons_succ, i64_w, i32_w]
           rfl
          refine pure_ (i := 18) (N := some 56) (v := undef) (a' := ?_) #[true, true, true, true, true, true, true, true, true, true, true, true, true, true, true, true, true, true, true, false, false, false, false] rfl rfl (by kernel_rfl) (fun _ _ _ h => h) (Or.inr ⟨by rfl, rfl⟩) ?_ ?_
          rotate_left
          ·
           simp only [Act.put, List.setIfInBounds_toArray, List.set_cons_zero, List.set_cons_succ, i64_w, i32_w]
           rfl
          refine take_ (i := 19) (N := some 57) (v := undef) (a' := ?_) #[true, true, true, true, true, true, true, true, true, true, true, true, true, true, true, true, true, true, true, true, false, false, false] rfl rfl (by kernel_rfl) (fun _ _ _ h => h) (Or.inr ⟨by rfl, rfl⟩) hHeld ?_ ?_
          rotate_left
          ·
           simp only [Act.put, List.setIfInBounds_toArray, List.set_cons_zero, List.set_cons_succ, i64_w, i32_w]
           rfl
          refine pure_ (i := 20) (N := some 58) (v := undef) (a' := ?_) #[true, true, true, true, true, true, true, true, true, true, true, true, true, true, true, true, true, true, true, true, true, false, false] rfl rfl (by kernel_rfl) (fun _ _ _ h => h) (Or.inr ⟨by rfl, rfl⟩) ?_ ?_
          rotate_left
          ·
           simp only [Act.put, List.setIfInBounds_toArray, List.set_cons_zero, List.set_cons_succ, i64_w, i32_w]
           rfl
          refine pure_ (i := 21) (N := some 59) (v := ?_) (a' := ?_) #[true, true, true, true, true, true, true, true, true, true, true, true, true, true, true, true, true, true, true, true, true, true, false] rfl rfl (by kernel_rfl) (fun _ _ _ h => h) (Or.inl ⟨by rfl, ?_⟩) ?_ ?_
          rotate_left
          ·
           intro w'
           go_simp
           with_reducible rfl
          rotate_left
          ·
           simp only [Act.put, List.setIfInBounds_toArray, List.set_cons_zero, List.set_cons_succ, i64_w, i32_w]
           rfl
          refine pure_ (i := 22) (N := some 60) (v := ?_) (a' := ?_) #[true, true, true, true, true, true, true, true, true, true, true, true, true, true, true, true, true, true, true, true, true, true, true] rfl rfl (by kernel_rfl) (fun _ _ _ h => h) (Or.inl ⟨by rfl, ?_⟩) ?_ ?_
          rotate_left
          ·
           intro w'
           go_simp
           with_reducible rfl
          rotate_left
          ·
           simp only [Act.put, List.setIfInBounds_toArray, List.set_cons_zero, List.set_cons_succ, i64_w, i32_w]
           rfl
          refine done_ (by kernel_rfl) ?_
          go_wp2
          go_roundg gk
          case measure => omega
          case rel => exact ⟨k + 1, (k : Int), by first | rfl | exact congrArg _ (by have := HT.out; omega), by first | rw [HTW.out] | exact congrArg _ (by have := HT.out; omega), ⟨by have := HK.out.1; omega, bst_first HF.out HGET.out HPOS.out HH.out⟩, HS2, HC2⟩
        · obtain ⟨bz, hbz⟩ : ∃ bz : Int, (j : Int) = bz := ⟨_, rfl⟩
          have hjl := (List.getElem?_eq_some_iff.1 hj).1
          obtain ⟨ad2, e2, _, _, _, o3⟩ := at_T34 HCC.out (j : Int) (by omega) (by omega)
          obtain rfl : ad = ad2 := Option.some.inj e2
          have hrd2 : rd_T34 p.ls (j : Int) = o := by
            unfold rd_T34
            rw [Int.toNat_natCast, List.getD_eq_getElem?_getD, hj, Option.getD_some]
          rw [hrd2] at o3
          obtain rfl : b = bz := by rw [hbj, hbz]
          rw [hbz] at o3
          have HF := Aside0.mk hfold
          have HJ := Aside0.mk hj
          have HO1 := Aside0.mk ho1
          have HBJ := Aside0.mk hbj
          have b3 : decide (b < 0) = false := decide_eq_false (by omega)
          have p3 : (0 ≤ b) = True := eq_true (by omega)
          have q3 : (b < (p.ls.length : Int)) = True := eq_true (by omega)
          clear hfold hj ho1 hbj hbz hrd2 e2 hjl
          by_cases hg : l.f1 > o.f1
          · have HG := Aside0.mk hg
            have b4 : decide (l.f1 > o.f1) = true := decide_eq_true hg
            clear hg
            go_wp2_with fail
            refine start_ (n := 23) (S := fun W => W.cell? ⟨g5, 0, none⟩ = some (.bool a.f0) ∧ W.cell? ⟨g5, 1, none⟩ = some (.int .u64 a.f1) ∧ W.cell? ⟨g5, 2, none⟩ = some (.int .u64 a.f2) ∧ W.cell? (ad.add (t.toNat * 4)) = some (.bool l.f0.f0) ∧ W.cell? ⟨(ad.add (t.toNat * 4)).block, (ad.add (t.toNat * 4)).off + 1, none⟩ = some (.int .u64 l.f0.f1) ∧ W.cell? ⟨(ad.add (t.toNat * 4)).block, (ad.add (t.toNat * 4)).off + 2, none⟩ = some (.int .u64 l.f0.f2) ∧ W.cell? ⟨(ad.add (t.toNat * 4)).block, (ad.add (t.toNat * 4)).off + 3, none⟩ = some (.int .i64 l.f1) ∧ W.cell? ⟨(ad.add (b.toNat * 4)).block, (ad.add (b.toNat * 4)).off + 3, none⟩ = some (.int .i64 o.f1)) (ds := []) #[false, false, false, false, false, false, false, false, false, false, false, false, false, false, false, false, false, false, false, false, false, false, false] (by kernel_rfl) rfl rfl ⟨d0, d1, d2, z0, zz1, z2, z3, o3⟩ (fun hHeld => ?_)
            refine pure_ (i := 0) (N := some 38) (v := ?_) (a' := ?_) #[true, false, false, false, false, false, false, false, false, false, false, false, false, false, false, false, false, false, false, false, false, false, false] rfl rfl (by kernel_rfl) (fun _ _ _ h => h) (Or.inl ⟨by rfl, ?_⟩) ?_ ?_
            rotate_left
            ·
             intro w'
             go_simp
             with_reducible rfl
            rotate_left
            ·
             simp only [Act.put, List.setIfInBounds_toArray, List.set_cons_zero, List.set_cons_succ, i64_w, i32_w]
             rfl
            refine pure_ (i := 1) (N := some 39) (v := ?_) (a' := ?_) #[true, true, false, false, false, false, false, false, false, false, false, false, false, false, false, false, false, false, false, false, false, false, false] rfl rfl (by kernel_rfl) (fun _ _ _ h => h) (Or.inl ⟨by rfl, ?_⟩) ?_ ?_
            rotate_left
            ·
             intro w'
             go_simp
             with_reducible rfl
            rotate_left
            ·
             simp only [Act.put, List.setIfInBounds_toArray, List.set_cons_zero, List.set_cons_succ, i64_w, i32_w]
             rfl
            refine pure_ (i := 2) (N := some 40) (v := ?_) (a' := ?_) #[true, true, true, false, false, false, false, false, false, false, false, false, false, false, false, false, false, false, false, false, false, false, false] rfl rfl (by kernel_rfl) (fun _ _ _ h => h) (Or.inl ⟨by rfl, ?_⟩) ?_ ?_
            rotate_left
            ·
             intro w'
             go_simp
             with_reducible rfl
            rotate_left
            ·
             simp only [Act.put, List.setIfInBounds_toArray, List.set_cons_zero, List.set_cons_succ, i64_w, i32_w]
             rfl
            refine take_ (i := 3) (N := some 41) (v := ?_) (a' := ?_) #[true, true, true, true, false, false, false, false, false, false, false, false, false, false, false, false, false, false, false, false, false, false, false] rfl rfl (by kernel_rfl) (fun _ _ _ h => h) (Or.inl ⟨by rfl, ?_⟩) hHeld ?_ ?_
            rotate_left
            ·
             rintro w' ⟨s0, s1, s2, s3, s4, s5, s6, s7⟩
             go_simp
             with_reducible rfl
            rotate_left
            ·
             simp only [Act.put, List.setIfInBounds_toArray, List.set_cons_zero, List.set_cons_succ, i64_w, i32_w]
             rfl
            refine take_ (i := 4) (N := some 42) (v := ?_) (a' := ?_) #[true, true, true, true, true, false, false, false, false, false, false, false, false, false, false, false, false, false, false, false, false, false, false] rfl rfl (by kernel_rfl) (fun _ _ _ h => h) (Or.inl ⟨by rfl, ?_⟩) hHeld ?_ ?_
            rotate_left
            ·
             rintro w' ⟨s0, s1, s2, s3, s4, s5, s6, s7⟩
             go_simp
             with_reducible rfl
            rotate_left
            ·
             simp only [Act.put, List.setIfInBounds_toArray, List.set_cons_zero, List.set_cons_succ, i64_w, i32_w]
             rfl
            refine one_ (i := 5) (N := some 43) #[true, true, true, true, true, true, false, false, false, false, false, false, false, false, false, false, false, false, false, false, false, false, false] rfl rfl (by kernel_rfl) (by decide) (fun K hK => ?_)
            refine goes_ Try.func57 (by kernel_rfl) rfl #[.agg #[.bool l.f0.f0, .int .u64 l.f0.f1, .int .u64 l.f0.f2, .int .i64 l.f1], .agg #[.bool a.f0, .int .u64 a.f1, .int .u64 a.f2]] (by rfl) rfl rfl (by (try simp only [List.map_toArray, List.map_cons, List.map_nil]); first | done | rfl) ?_
            with_reducible refine (hcall _).mono ?_
            rintro e w2 ⟨rfl, hb⟩
            refine ⟨_, rfl, ?_⟩
            have HC2 := Aside0.mk (below_step (below_drew1 HC.out) hb)
            have HS2 := Aside0.mk ((Ss.below HS.out (below_drew1 (Below.refl _ _))).below hb)
            have HD := Aside0.mk (show Below wr.heap.size wr w2 from ⟨hb.os, hb.tape, hb.output, hb.size, hb.block⟩)
            clear hb
            refine hK.out _ _ ⟨pw_cell_below HD.out d0, pw_cell_below HD.out d1, pw_cell_below HD.out d2, pw_cell_below HD.out z0, pw_cell_below HD.out zz1, pw_cell_below HD.out z2, pw_cell_below HD.out z3, pw_cell_below HD.out o3⟩ (fun hHeld => ?_)
            clear hK K d0 d1 d2 z0 zz1 z2 z3
            refine norm_ (a' := ?_) ?_ ?_
            rotate_left
            ·
              show Act.put _ (some 43) _ = _
              simp only [Act.put, List.setIfInBounds_toArray, List.set_cons_zero, List.set_cons_succ, i64_w, i32_w]
              rfl
            refine pure_ (i := 6) (N := some 44) (v := ?_) (a' := ?_) #[true, true, true, true, true, true, true, false, false, false, false, false, false, false, false, false, false, false, false, false, false, false, false] rfl rfl (by kernel_rfl) (fun _ _ _ h => h) (Or.inl ⟨by rfl, ?_⟩) ?_ ?_
            rotate_left
            ·
             intro w'
             go_simp
             with_reducible rfl
            rotate_left
            ·
             simp only [Act.put, List.setIfInBounds_toArray, List.set_cons_zero, List.set_cons_succ, i64_w, i32_w]
             rfl
            refine pure_ (i := 7) (N := some 45) (v := ?_) (a' := ?_) #[true, true, true, true, true, true, true, true, false, false, false, false, false, false, false, false, false, false, false, false, false, false, false] rfl rfl (by kernel_rfl) (fun _ _ _ h => h) (Or.inl ⟨by rfl, ?_⟩) ?_ ?_
            rotate_left
            ·
             intro w'
             go_simp
             with_reducible rfl
            rotate_left
            ·
             simp only [Act.put, List.setIfInBounds_toArray, List.set_cons_zero, List.set_cons_succ, i64_w, i32_w]
             rfl
            refine pure_ (i := 8) (N := some 46) (v := ?_) (a' := ?_) #[true, true, true, true, true, true, true, true, true, false, false, false, false, false, false, false, false, false, false, false, false, false, false] rfl rfl (by kernel_rfl) (fun _ _ _ h => h) (Or.inl ⟨by rfl, ?_⟩) ?_ ?_
            rotate_left
            ·
             intro w'
             go_simp
             with_reducible rfl
            rotate_left
            ·
             simp only [Act.put, List.setIfInBounds_toArray, List.set_cons_zero, List.set_cons_succ, i64_w, i32_w]
             rfl
            refine pure_ (i := 9) (N := some 47) (v := ?_) (a' := ?_) #[true, true, true, true, true, true, true, true, true, true, false, false, false, false, false, false, false, false, false, false, false, false, false] rfl rfl (by kernel_rfl) (fun _ _ _ h => h) (Or.inl ⟨by rfl, ?_⟩) ?_ ?_
            rotate_left
            ·
             intro w'
             go_simp
             with_reducible rfl
            rotate_left
            ·
             simp only [Act.put, List.setIfInBounds_toArray, List.set_cons_zero, List.set_cons_succ, i64_w, i32_w]
             rfl
            refine pure_ (i := 10) (N := some 48) (v := ?_) (a' := ?_) #[true, true, true, true, true, true, true, true, true, true, true, false, false, false, false, false, false, false, false, false, false, false, false] rfl rfl (by kernel_rfl) (fun _ _ _ h => h) (Or.inl ⟨by rfl, ?_⟩) ?_ ?_
            rotate_left
            ·
             intro w'
             go_simp
             with_reducible rfl
            rotate_left
            ·
             simp only [Act.put, List.setIfInBounds_toArray, List.set_cons_zero, List.set_cons_succ, i64_w, i32_w]
             rfl
            refine pure_ (i := 11) (N := some 49) (v := ?_) (a' := ?_) #[true, true, true, true, true, true, true, true, true, true, true, true, false, false, false, false, false, false, false, false, false, false, false] rfl rfl (by kernel_rfl) (fun _ _ _ h => h) (Or.inl ⟨by rfl, ?_⟩) ?_ ?_
            rotate_left
            ·
             intro w'
             go_simp
             with_reducible rfl
            rotate_left
            ·
             simp only [Act.put, List.setIfInBounds_toArray, List.set_cons_zero, List.set_cons_succ, i64_w, i32_w]
             rfl
            refine pure_ (i := 12) (N := some 50) (v := ?_) (a' := ?_) #[true, true, true, true, true, true, true, true, true, true, true, true, true, false, false, false, false, false, false, false, false, false, false] rfl rfl (by kernel_rfl) (fun _ _ _ h => h) (Or.inl ⟨by rfl, ?_⟩) ?_ ?_
            rotate_left
            ·
             intro w'
             go_simp
             with_reducible rfl
            rotate_left
            ·
             simp only [Act.put, List.setIfInBounds_toArray, List.set_cons_zero, List.set_cons_succ, i64_w, i32_w]
             rfl
            refine pure_ (i := 13) (N := some 51) (v := ?_) (a' := ?_) #[true, true, true, true, true, true, true, true, true, true, true, true, true, true, false, false, false, false, false, false, false, false, false] rfl rfl (by kernel_rfl) (fun _ _ _ h => h) (Or.inl ⟨by rfl, ?_⟩) ?_ ?_
            rotate_left
            ·
             intro w'
             go_simp
             with_reducible rfl
            rotate_left
            ·
             simp only [Act.put, List.setIfInBounds_toArray, List.set_cons_zero, List.set_cons_succ, i64_w, i32_w]
             rfl
            refine take_ (i := 14) (N := some 52) (v := ?_) (a' := ?_) #[true, true, true, true, true, true, true, true, true, true, true, true, true, true, true, false, false, false, false, false, false, false, false] rfl rfl (by kernel_rfl) (fun _ _ _ h => h) (Or.inl ⟨by rfl, ?_⟩) hHeld ?_ ?_
            rotate_left
            ·
             rintro w' ⟨s0, s1, s2, s3, s4, s5, s6, s7⟩
             go_simp
             with_reducible rfl
            rotate_left
            ·
             simp only [Act.put, List.setIfInBounds_toArray, List.set_cons_zero, List.set_cons_succ, i64_w, i32_w]
             rfl
            refine pure_ (i := 15) (N := some 53) (v := ?_) (a' := ?_) #[true, true, true, true, true, true, true, true, true, true, true, true, true, true, true, true, false, false, false, false, false, false, false] rfl rfl (by kernel_rfl) (fun _ _ _ h => h) (Or.inl ⟨by rfl, ?_⟩) ?_ ?_
            rotate_left
            ·
             intro w'
             go_simp
             with_reducible rfl
            rotate_left
            ·
             simp only [Act.put, List.setIfInBounds_toArray, List.set_cons_zero, List.set_cons_succ, i64_w, i32_w]
             rfl
            refine pure_ (i := 16) (N := some 54) (v := ?_) (a' := ?_) #[true, true, true, true, true, true, true, true, true, true, true, true, true, true, true, true, true, false, false, false, false, false, false] rfl rfl (by kernel_rfl) (fun _ _ _ h => h) (Or.inl ⟨by rfl, ?_⟩) ?_ ?_
            rotate_left
            ·
             intro w'
             go_simp
             with_reducible rfl
            rotate_left
            ·
             simp only [Act.put, List.setIfInBounds_toArray, List.set_cons_zero, List.set_cons_succ, i64_w, i32_w]
             rfl
            refine pure_ (i := 17) (N := some 55) (v := ?_) (a' := ?_) #[true, true, true, true, true, true, true, true, true, true, true, true, true, true, true, true, true, true, false, false, false, false, false] rfl rfl (by kernel_rfl) (fun _ _ _ h => h) (Or.inl ⟨by rfl, ?_⟩) ?_ ?_
            rotate_left
            ·
             intro w'
             go_simp
             with_reducible rfl
            rotate_left
            ·
             simp only [Act.put, List.setIfInBounds_toArray, List.set_cons_zero, List.set_cons_succ, i64_w, i32_w]
             rfl
            refine pure_ (i := 18) (N := some 56) (v := ?_) (a' := ?_) #[true, true, true, true, true, true, true, true, true, true, true, true, true, true, true, true, true, true, true, false, false, false, false] rfl rfl (by kernel_rfl) (fun _ _ _ h => h) (Or.inl ⟨by rfl, ?_⟩) ?_ ?_
            rotate_left
            ·
             intro w'
             go_simp
             with_reducible rfl
            rotate_left
            ·
             simp only [Act.put, List.setIfInBounds_toArray, List.set_cons_zero, List.set_cons_succ, i64_w, i32_w]
             rfl
            refine take_ (i := 19) (N := some 57) (v := ?_) (a' := ?_) #[true, true, true, true, true, true, true, true, true, true, true, true, true, true, true, true, true, true, true, true, false, false, false] rfl rfl (by kernel_rfl) (fun _ _ _ h => h) (Or.inl ⟨by rfl, ?_⟩) hHeld ?_ ?_
            rotate_left
            ·
             rintro w' ⟨s0, s1, s2, s3, s4, s5, s6, s7⟩
             go_simp
             with_reducible rfl
            rotate_left
            ·
             simp only [Act.put, List.setIfInBounds_toArray, List.set_cons_zero, List.set_cons_succ, i64_w, i32_w]
             rfl
            refine pure_ (i := 20) (N := some 58) (v := ?_) (a' := ?_) #[true, true, true, true, true, true, true, true, true, true, true, true, true, true, true, true, true, true, true, true, true, false, false] rfl rfl (by kernel_rfl) (fun _ _ _ h => h) (Or.inl ⟨by rfl, ?_⟩) ?_ ?_
            rotate_left
            ·
             intro w'
             go_simp
             with_reducible rfl
            rotate_left
            ·
             simp only [Act.put, List.setIfInBounds_toArray, List.set_cons_zero, List.set_cons_succ, i64_w, i32_w]
             rfl
            refine pure_ (i := 21) (N := some 59) (v := ?_) (a' := ?_) #[true, true, true, true, true, true, true, true, true, true, true, true, true, true, true, true, true, true, true, true, true, true, false] rfl rfl (by kernel_rfl) (fun _ _ _ h => h) (Or.inl ⟨by rfl, ?_⟩) ?_ ?_
            rotate_left
            ·
             intro w'
             go_simp
             with_reducible rfl
            rotate_left
            ·
             simp only [Act.put, List.setIfInBounds_toArray, List.set_cons_zero, List.set_cons_succ, i64_w, i32_w]
             rfl
            refine pure_ (i := 22) (N := some 60) (v := ?_) (a' := ?_) #[true, true, true, true, true, true, true, true, true, true, true, true, true, true, true, true, true, true, true, true, true, true, true] rfl rfl (by kernel_rfl) (fun _ _ _ h => h) (Or.inl ⟨by rfl, ?_⟩) ?_ ?_
            rotate_left
            ·
             intro w'
             go_simp
             with_reducible rfl
            rotate_left
            ·
             simp only [Act.put, List.setIfInBounds_toArray, List.set_cons_zero, List.set_cons_succ, i64_w, i32_w]
             rfl
            refine done_ (by kernel_rfl) ?_
            go_wp2
            go_roundg gk
            case measure => omega
            case rel => exact ⟨k + 1, (k : Int), by first | rfl | exact congrArg _ (by have := HT.out; omega), by first | rw [HTW.out] | exact congrArg _ (by have := HT.out; omega), ⟨by have := HK.out.1; omega, bst_more HF.out HGET.out HPOS.out HH.out HG.out⟩, HS2, HC2⟩
          · have HG := Aside0.mk hg
            have b4 : decide (l.f1 > o.f1) = false := decide_eq_false hg
            clear hg
            go_wp2_with fail
            refine start_ (n := 23) (S := fun W => W.cell? ⟨g5, 0, none⟩ = some (.bool a.f0) ∧ W.cell? ⟨g5, 1, none⟩ = some (.int .u64 a.f1) ∧ W.cell? ⟨g5, 2, none⟩ = some (.int .u64 a.f2) ∧ W.cell? (ad.add (t.toNat * 4)) = some (.bool l.f0.f0) ∧ W.cell? ⟨(ad.add (t.toNat * 4)).block, (ad.add (t.toNat * 4)).off + 1, none⟩ = some (.int .u64 l.f0.f1) ∧ W.cell? ⟨(ad.add (t.toNat * 4)).block, (ad.add (t.toNat * 4)).off + 2, none⟩ = some (.int .u64 l.f0.f2) ∧ W.cell? ⟨(ad.add (t.toNat * 4)).block, (ad.add (t.toNat * 4)).off + 3, none⟩ = some (.int .i64 l.f1) ∧ W.cell? ⟨(ad.add (b.toNat * 4)).block, (ad.add (b.toNat * 4)).off + 3, none⟩ = some (.int .i64 o.f1)) (ds := []) #[false, false, false, false, false, false, false, false, false, false, false, false, false, false, false, false, false, false, false, false, false, false, false] (by kernel_rfl) rfl rfl ⟨d0, d1, d2, z0, zz1, z2, z3, o3⟩ (fun hHeld => ?_)
            refine pure_ (i := 0) (N := some 38) (v := ?_) (a' := ?_) #[true, false, false, false, false, false, false, false, false, false, false, false, false, false, false, false, false, false, false, false, false, false, false] rfl rfl (by kernel_rfl) (fun _ _ _ h => h) (Or.inl ⟨by rfl, ?_⟩) ?_ ?_
            rotate_left
            ·
             intro w'
             go_simp
             with_reducible rfl
            rotate_left
            ·
             simp only [Act.put, List.setIfInBounds_toArray, List.set_cons_zero, List.set_cons_succ, i64_w, i32_w]
             rfl
            refine pure_ (i := 1) (N := some 39) (v := ?_) (a' := ?_) #[true, true, false, false, false, false, false, false, false, false, false, false, false, false, false, false, false, false, false, false, false, false, false] rfl rfl (by kernel_rfl) (fun _ _ _ h => h) (Or.inl ⟨by rfl, ?_⟩) ?_ ?_
            rotate_left
            ·
             intro w'
             go_simp
             with_reducible rfl
            rotate_left
            ·
             simp only [Act.put, List.setIfInBounds_toArray, List.set_cons_zero, List.set_cons_succ, i64_w, i32_w]
             rfl
            refine pure_ (i := 2) (N := some 40) (v := ?_) (a' := ?_) #[true, true, true, false, false, false, false, false, false, false, false, false, false, false, false, false, false, false, false, false, false, false, false] rfl rfl (by kernel_rfl) (fun _ _ _ h => h) (Or.inl ⟨by rfl, ?_⟩) ?_ ?_
            rotate_left
            ·
             intro w'
             go_simp
             with_reducible rfl
            rotate_left
            ·
             simp only [Act.put, List.setIfInBounds_toArray, List.set_cons_zero, List.set_cons_succ, i64_w, i32_w]
             rfl
            refine take_ (i := 3) (N := some 41) (v := ?_) (a' := ?_) #[true, true, true, true, false, false, false, false, false, false, false, false, false, false, false, false, false, false, false, false, false, false, false] rfl rfl (by kernel_rfl) (fun _ _ _ h => h) (Or.inl ⟨by rfl, ?_⟩) hHeld ?_ ?_
            rotate_left
            ·
             rintro w' ⟨s0, s1, s2, s3, s4, s5, s6, s7⟩
             go_simp
             with_reducible rfl
            rotate_left
            ·
             simp only [Act.put, List.setIfInBounds_toArray, List.set_cons_zero, List.set_cons_succ, i64_w, i32_w]
             rfl
            refine take_ (i := 4) (N := some 42) (v := ?_) (a' := ?_) #[true, true, true, true, true, false, false, false, false, false, false, false, false, false, false, false, false, false, false, false, false, false, false] rfl rfl (by kernel_rfl) (fun _ _ _ h => h) (Or.inl ⟨by rfl, ?_⟩) hHeld ?_ ?_
            rotate_left
            ·
             rintro w' ⟨s0, s1, s2, s3, s4, s5, s6, s7⟩
             go_simp
             with_reducible rfl
            rotate_left
            ·
             simp only [Act.put, List.setIfInBounds_toArray, List.set_cons_zero, List.set_cons_succ, i64_w, i32_w]
             rfl
            refine one_ (i := 5) (N := some 43) #[true, true, true, true, true, true, false, false, false, false, false, false, false, false, false, false, false, false, false, false, false, false, false] rfl rfl (by kernel_rfl) (by decide) (fun K hK => ?_)
            refine goes_ Try.func57 (by kernel_rfl) rfl #[.agg #[.bool l.f0.f0, .int .u64 l.f0.f1, .int .u64 l.f0.f2, .int .i64 l.f1], .agg #[.bool a.f0, .int .u64 a.f1, .int .u64 a.f2]] (by rfl) rfl rfl (by (try simp only [List.map_toArray, List.map_cons, List.map_nil]); first | done | rfl) ?_
            with_reducible refine (hcall _).mono ?_
            rintro e w2 ⟨rfl, hb⟩
            refine ⟨_, rfl, ?_⟩
            have HC2 := Aside0.mk (below_step (below_drew1 HC.out) hb)
            have HS2 := Aside0.mk ((Ss.below HS.out (below_drew1 (Below.refl _ _))).below hb)
            have HD := Aside0.mk (show Below wr.heap.size wr w2 from ⟨hb.os, hb.tape, hb.output, hb.size, hb.block⟩)
            clear hb
            refine hK.out _ _ ⟨pw_cell_below HD.out d0, pw_cell_below HD.out d1, pw_cell_below HD.out d2, pw_cell_below HD.out z0, pw_cell_below HD.out zz1, pw_cell_below HD.out z2, pw_cell_below HD.out z3, pw_cell_below HD.out o3⟩ (fun hHeld => ?_)
            clear hK K d0 d1 d2 z0 zz1 z2 z3
            refine norm_ (a' := ?_) ?_ ?_
            rotate_left
            ·
              show Act.put _ (some 43) _ = _
              simp only [Act.put, List.setIfInBounds_toArray, List.set_cons_zero, List.set_cons_succ, i64_w, i32_w]
              rfl
            refine pure_ (i := 6) (N := some 44) (v := ?_) (a' := ?_) #[true, true, true, true, true, true, true, false, false, false, false, false, false, false, false, false, false, false, false, false, false, false, false] rfl rfl (by kernel_rfl) (fun _ _ _ h => h) (Or.inl ⟨by rfl, ?_⟩) ?_ ?_
            rotate_left
            ·
             intro w'
             go_simp
             with_reducible rfl
            rotate_left
            ·
             simp only [Act.put, List.setIfInBounds_toArray, List.set_cons_zero, List.set_cons_succ, i64_w, i32_w]
             rfl
            refine pure_ (i := 7) (N := some 45) (v := ?_) (a' := ?_) #[true, true, true, true, true, true, true, true, false, false, false, false, false, false, false, false, false, false, false, false, false, false, false] rfl rfl (by kernel_rfl) (fun _ _ _ h => h) (Or.inl ⟨by rfl, ?_⟩) ?_ ?_
            rotate_left
            ·
             intro w'
             go_simp
             with_reducible rfl
            rotate_left
            ·
             simp only [Act.put, List.setIfInBounds_toArray, List.set_cons_zero, List.set_cons_succ, i64_w, i32_w]
             rfl
            refine pure_ (i := 8) (N := some 46) (v := ?_) (a' := ?_) #[true, true, true, true, true, true, true, true, true, false, false, false, false, false, false, false, false, false, false, false, false, false, false] rfl rfl (by kernel_rfl) (fun _ _ _ h => h) (Or.inl ⟨by rfl, ?_⟩) ?_ ?_
            rotate_left
            ·
             intro w'
             go_simp
             with_reducible rfl
            rotate_left
            ·
             simp only [Act.put, List.setIfInBounds_toArray, List.set_cons_zero, List.set_cons_succ, i64_w, i32_w]
             rfl
            refine pure_ (i := 9) (N := some 47) (v := ?_) (a' := ?_) #[true, true, true, true, true, true, true, true, true, true, false, false, false, false, false, false, false, false, false, false, false, false, false] rfl rfl (by kernel_rfl) (fun _ _ _ h => h) (Or.inl ⟨by rfl, ?_⟩) ?_ ?_
            rotate_left
            ·
             intro w'
             go_simp
             with_reducible rfl
            rotate_left
            ·
             simp only [Act.put, List.setIfInBounds_toArray, List.set_cons_zero, List.set_cons_succ, i64_w, i32_w]
             rfl
            refine pure_ (i := 10) (N := some 48) (v := ?_) (a' := ?_) #[true, true, true, true, true, true, true, true, true, true, true, false, false, false, false, false, false, false, false, false, false, false, false] rfl rfl (by kernel_rfl) (fun _ _ _ h => h) (Or.inl ⟨by rfl, ?_⟩) ?_ ?_
            rotate_left
            ·
             intro w'
             go_simp
             with_reducible rfl
            rotate_left
            ·
             simp only [Act.put, List.setIfInBounds_toArray, List.set_cons_zero, List.set_cons_succ, i64_w, i32_w]
             rfl
            refine pure_ (i := 11) (N := some 49) (v := ?_) (a' := ?_) #[true, true, true, true, true, true, true, true, true, true, true, true, false, false, false, false, false, false, false, false, false, false, false] rfl rfl (by kernel_rfl) (fun _ _ _ h => h) (Or.inl ⟨by rfl, ?_⟩) ?_ ?_
            rotate_left
            ·
             intro w'
             go_simp
             with_reducible rfl
            rotate_left
            ·
             simp only [Act.put, List.setIfInBounds_toArray, List.set_cons_zero, List.set_cons_succ, i64_w, i32_w]
             rfl
            refine pure_ (i := 12) (N := some 50) (v := ?_) (a' := ?_) #[true, true, true, true, true, true, true, true, true, true, true, true, true, false, false, false, false, false, false, false, false, false, false] rfl rfl (by kernel_rfl) (fun _ _ _ h => h) (Or.inl ⟨by rfl, ?_⟩) ?_ ?_
            rotate_left
            ·
             intro w'
             go_simp
             with_reducible rfl
            rotate_left
            ·
             simp only [Act.put, List.setIfInBounds_toArray, List.set_cons_zero, List.set_cons_succ, i64_w, i32_w]
             rfl
            refine pure_ (i := 13) (N := some 51) (v := ?_) (a' := ?_) #[true, true, true, true, true, true, true, true, true, true, true, true, true, true, false, false, false, false, false, false, false, false, false] rfl rfl (by kernel_rfl) (fun _ _ _ h => h) (Or.inl ⟨by rfl, ?_⟩) ?_ ?_
            rotate_left
            ·
             intro w'
             go_simp
             with_reducible rfl
            rotate_left
            ·
             simp only [Act.put, List.setIfInBounds_toArray, List.set_cons_zero, List.set_cons_succ, i64_w, i32_w]
             rfl
            refine take_ (i := 14) (N := some 52) (v := ?_) (a' := ?_) #[true, true, true, true, true, true, true, true, true, true, true, true, true, true, true, false, false, false, false, false, false, false, false] rfl rfl (by kernel_rfl) (fun _ _ _ h => h) (Or.inl ⟨by rfl, ?_⟩) hHeld ?_ ?_
            rotate_left
            ·
             rintro w' ⟨s0, s1, s2, s3, s4, s5, s6, s7⟩
             go_simp
             with_reducible rfl
            rotate_left
            ·
             simp only [Act.put, List.setIfInBounds_toArray, List.set_cons_zero, List.set_cons_succ, i64_w, i32_w]
             rfl
            refine pure_ (i := 15) (N := some 53) (v := ?_) (a' := ?_) #[true, true, true, true, true, true, true, true, true, true, true, true, true, true, true, true, false, false, false, false, false, false, false] rfl rfl (by kernel_rfl) (fun _ _ _ h => h) (Or.inl ⟨by rfl, ?_⟩) ?_ ?_
            rotate_left
            ·
             intro w'
             go_simp
             with_reducible rfl
            rotate_left
            ·
             simp only [Act.put, List.setIfInBounds_toArray, List.set_cons_zero, List.set_cons_succ, i64_w, i32_w]
             rfl
            refine pure_ (i := 16) (N := some 54) (v := ?_) (a' := ?_) #[true, true, true, true, true, true, true, true, true, true, true, true, true, true, true, true, true, false, false, false, false, false, false] rfl rfl (by kernel_rfl) (fun _ _ _ h => h) (Or.inl ⟨by rfl, ?_⟩) ?_ ?_
            rotate_left
            ·
             intro w'
             go_simp
             with_reducible rfl
            rotate_left
            ·
             simp only [Act.put, List.setIfInBounds_toArray, List.set_cons_zero, List.set_cons_succ, i64_w, i32_w]
             rfl
            refine pure_ (i := 17) (N := some 55) (v := ?_) (a' := ?_) #[true, true, true, true, true, true, true, true, true, true, true, true, true, true, true, true, true, true, false, false, false, false, false] rfl rfl (by kernel_rfl) (fun _ _ _ h => h) (Or.inl ⟨by rfl, ?_⟩) ?_ ?_
            rotate_left
            ·
             intro w'
             go_simp
             with_reducible rfl
            rotate_left
            ·
             simp only [Act.put, List.setIfInBounds_toArray, List.set_cons_zero, List.set_cons_succ, i64_w, i32_w]
             rfl
            refine pure_ (i := 18) (N := some 56) (v := ?_) (a' := ?_) #[true, true, true, true, true, true, true, true, true, true, true, true, true, true, true, true, true, true, true, false, false, false, false] rfl rfl (by kernel_rfl) (fun _ _ _ h => h) (Or.inl ⟨by rfl, ?_⟩) ?_ ?_
            rotate_left
            ·
             intro w'
             go_simp
             with_reducible rfl
            rotate_left
            ·
             simp only [Act.put, List.setIfInBounds_toArray, List.set_cons_zero, List.set_cons_succ, i64_w, i32_w]
             rfl
            refine take_ (i := 19) (N := some 57) (v := ?_) (a' := ?_) #[true, true, true, true, true, true, true, true, true, true, true, true, true, true, true, true, true, true, true, true, false, false, false] rfl rfl (by kernel_rfl) (fun _ _ _ h => h) (Or.inl ⟨by rfl, ?_⟩) hHeld ?_ ?_
            rotate_left
            ·
             rintro w' ⟨s0, s1, s2, s3, s4, s5, s6, s7⟩
             go_simp
             with_reducible rfl
            rotate_left
            ·
             simp only [Act.put, List.setIfInBounds_toArray, List.set_cons_zero, List.set_cons_succ, i64_w, i32_w]
             rfl
            refine pure_ (i := 20) (N := some 58) (v := ?_) (a' := ?_) #[true, true, true, true, true, true, true, true, true, true, true, true, true, true, true, true, true, true, true, true, true, false, false] rfl rfl (by kernel_rfl) (fun _ _ _ h => h) (Or.inl ⟨by rfl, ?_⟩) ?_ ?_
            rotate_left
            ·
             intro w'
             go_simp
             with_reducible rfl
            rotate_left
            ·
             simp only [Act.put, List.setIfInBounds_toArray, List.set_cons_zero, List.set_cons_succ, i64_w, i32_w]
             rfl
            refine pure_ (i := 21) (N := some 59) (v := ?_) (a' := ?_) #[true, true, true, true, true, true, true, true, true, true, true, true, true, true, true, true, true, true, true, true, true, true, false] rfl rfl (by kernel_rfl) (fun _ _ _ h => h) (Or.inl ⟨by rfl, ?_⟩) ?_ ?_
            rotate_left
            ·
             intro w'
             go_simp
             with_reducible rfl
            rotate_left
            ·
             simp only [Act.put, List.setIfInBounds_toArray, List.set_cons_zero, List.set_cons_succ, i64_w, i32_w]
             rfl
            refine pure_ (i := 22) (N := some 60) (v := ?_) (a' := ?_) #[true, true, true, true, true, true, true, true, true, true, true, true, true, true, true, true, true, true, true, true, true, true, true] rfl rfl (by kernel_rfl) (fun _ _ _ h => h) (Or.inl ⟨by rfl, ?_⟩) ?_ ?_
            rotate_left
            ·
             intro w'
             go_simp
             with_reducible rfl
            rotate_left
            ·
             simp only [Act.put, List.setIfInBounds_toArray, List.set_cons_zero, List.set_cons_succ, i64_w, i32_w]
             rfl
            refine done_ (by kernel_rfl) ?_
            go_wp2
            go_roundg gk
            case measure => omega
            case rel => exact ⟨k + 1, b, rfl, by first | rw [HTW.out] | exact congrArg _ (by have := HT.out; omega), ⟨by have := HK.out.1; omega, HBJ.out ▸ bst_less HF.out HJ.out HO1.out HGET.out (by have := HG.out; omega)⟩, HS2, HC2⟩
    · have hF : Fst p.ls a 0 b := fst_of (by have := HK.out.1; rw [show k = p.ls.length by omega] at HK; exact HK.out.2)
      have HF := Aside0.mk hF
      obtain ⟨t, ht⟩ : ∃ t : Int, (k : Int) = t := ⟨_, rfl⟩
      have b2 : decide (t < (p.ls.length : Int)) = false := decide_eq_false (by omega)
      rw [ht]
      clear ht hk hF
      go_wp2_with fail
      go_loopg [10, 12] p.ls.length (fun kq v10 v12 w' => ∃ (m : Nat) (b : Int), v10 = .int .i64 b ∧ v12 = .int .i64 (m : Int) ∧ Aside0 (m + kq = p.ls.length ∧ Fst p.ls a m b) ∧ Aside0 (Ss w w' g5 g6 a) ∧ Aside0 (Below w3.heap.size w3 w'))
      case atStart => exact ⟨0, b, rfl, rfl, ⟨by omega, HF.out⟩, HS, HC⟩
      case round =>
        clear HS HC HF b2 HK
        obtain ⟨m, b, rfl, rfl, HK, HS, HC⟩ := hrel
        obtain ⟨d0, d1, d2⟩ := MBlk.c3 HS.out.b5
        obtain ⟨c0, c1, c2⟩ := MBlk.c3 HS.out.b6
        obtain ⟨f0, f1, f2⟩ := MBlk.f3 HS.out.b6
        have hfst := HK.out.2
        unfold Fst at hfst
        obtain ⟨t, ht⟩ : ∃ t : Int, (m : Int) = t := ⟨_, rfl⟩
        rcases hfst with ⟨hb1, hz, hno⟩ | ⟨j, l, hbj, hj, hsr⟩
        · subst hb1
          have HZ := Aside0.mk hz
          have HNO := Aside0.mk hno
          by_cases hk : m < p.ls.length
          · obtain ⟨l, hl⟩ : ∃ l, p.ls[m]? = some l := ⟨_, List.getElem?_eq_getElem hk⟩
            obtain ⟨ad, e, z0, _, _, _⟩ := at_T34 (Kd.C_below HCA.out HC.out) (m : Int) (by omega) (by omega)
            have hrd : rd_T34 p.ls (m : Int) = l := by
              unfold rd_T34
              rw [Int.toNat_natCast, List.getD_eq_getElem?_getD, hl, Option.getD_some]
            rw [hrd] at z0
            subst e
            have HGET := Aside0.mk hl
            rw [ht] at z0 ⊢
            have HT := Aside0.mk ht
            have b2 : decide (t < (p.ls.length : Int)) = true := decide_eq_true (by omega)
            have p2 : (0 ≤ t) = True := eq_true (by omega)
            have q2 : (t < (p.ls.length : Int)) = True := eq_true (by omega)
            have htw : wrap64 (t + 1) = ((m + 1 : Nat) : Int) := by unfold wrap64; omega
            have HTW := Aside0.mk htw
            obtain ⟨gk, rfl⟩ : ∃ q, gk = q + 1 := ⟨gk - 1, by have := HK.out.1; omega⟩
            clear hl ht htw hk hrd hz hno c0 c1 c2 f0 f1 f2
            by_cases h6 : l.f0.f0 = a.f0
            · have HF := Aside0.mk (fst_found HZ.out HNO.out HGET.out h6)
              have h6b : (l.f0.f0 == a.f0) = true := by rw [h6]; simp
              clear h6
              go_wp2_with fail
              go_region
              go_wp2
              go_roundg gk
              case measure => omega
              case rel => exact ⟨m + 1, (m : Int), by first | rfl | exact congrArg _ (by have := HT.out; omega), by first | rw [HTW.out] | exact congrArg _ (by have := HT.out; omega), ⟨by have := HK.out.1; omega, HF.out⟩, ⟨HS.out.below (below_drew1 (Below.refl _ _))⟩, ⟨below_drew1 HC.out⟩⟩
            · have h6b : (l.f0.f0 == a.f0) = false := by simpa using h6
              have HF := Aside0.mk (fst_more HZ.out HNO.out HGET.out h6)
              clear h6
              go_wp2_with fail
              go_region
              go_wp2
              go_roundg gk
              case measure => omega
              case rel => exact ⟨m + 1, -1, rfl, by first | rw [HTW.out] | exact congrArg _ (by have := HT.out; omega), ⟨by have := HK.out.1; omega, HF.out⟩, ⟨HS.out.below (below_drew1 (Below.refl _ _))⟩, ⟨below_drew1 HC.out⟩⟩
          · have b2 : decide (t < (p.ls.length : Int)) = false := decide_eq_false (by omega)
            rw [ht]
            clear ht hz hno
            have HF := Aside0.mk (fam_none (ls := p.ls) (six := a.f0) (fun i l hi hl => HNO.out i l (by omega) hl))
            clear hk
            go_wp2
            refine bodyPost_ret (results_ct rfl _ _ g6 25 (adA zeroA) (0, 0) _ rfl (put3 HS.out.b6) hu25 rfl (by kernel_rfl)) rfl ?_
            exact ⟨⟨(zeroA, false), rfl, by rw [HF.out, HZ.out]; exact srcR_none (Int.le_refl _)⟩, below3 HS.out.bel HS.out.ge.2⟩
        · obtain ⟨bz, hbz⟩ : ∃ bz : Int, (j : Int) = bz := ⟨_, rfl⟩
          have hjl := (List.getElem?_eq_some_iff.1 hj).1
          obtain ⟨ad2, e2, o0, o1, o2, _⟩ := at_T34 (Kd.C_below HCA.out HC.out) (j : Int) (by omega) (by omega)
          have hrd2 : rd_T34 p.ls (j : Int) = l := by
            unfold rd_T34
            rw [Int.toNat_natCast, List.getD_eq_getElem?_getD, hj, Option.getD_some]
          rw [hrd2] at o0 o1 o2
          subst e2
          obtain rfl : b = bz := by rw [hbj, hbz]
          rw [hbz] at o0 o1 o2
          have HSR := Aside0.mk hsr
          have b3 : decide (b < 0) = false := decide_eq_false (by omega)
          have p3 : (0 ≤ b) = True := eq_true (by omega)
          have q3 : (b < (p.ls.length : Int)) = True := eq_true (by omega)
          rw [ht]
          have b2 : decide (t < (p.ls.length : Int)) = true ∨ decide (t < (p.ls.length : Int)) = false := by cases decide (t < (p.ls.length : Int)) <;> simp
          clear ht hj hbj hbz hrd2 hjl hsr
          rcases b2 with b2 | b2
          all_goals
            go_wp2
            refine bodyPost_ret (results_ct rfl _ _ g6 25 (adA l.f0) (0, 0) _ rfl (put3 HS.out.b6) hu25 rfl (by kernel_rfl)) rfl ?_
            exact ⟨⟨(l.f0, true), rfl, HSR.out⟩, below3 HS.out.bel HS.out.ge.2⟩
theorem dsource_calls (h : Dem w S db v1 v2 ls st) (h8 : st.length ≤ 8) (hls : ∀ p ∈ st, p.ls.length ≤ 8) (hR : Rng st) (n : Int) (a : Ad) (ha : AdOk a) :
    Calls Try.prog 37 #[.pointer (some ⟨db, 0, none⟩), .int .i64 n, .agg (adA a)] w fun e w' => e = .returned (.tuple #[.agg (adA (source st n a).1), .bool (source st n a).2]) ∧ Below w.heap.size w w' := by
  cases hn : at? st n with
  | none =>
    have e : source st n a = (zeroA, false) := by unfold source; rw [hn]
    rw [e]
    exact dsource_none h h8 n a hn
  | some i =>
    cases hva : validB a with
    | false =>
      have e : source st n a = (zeroA, false) := by unfold source; simp only [hn, hva, if_pos]
      rw [e]
      exact dsource_not h h8 n a hn hva
    | true =>
      obtain ⟨p, hp⟩ : ∃ p, st[i]? = some p := ⟨_, List.getElem?_eq_getElem (at_lt hn).1⟩
      have e : source st n a = srcR (best p.ls a) (famN p.ls a.f0) := by
        unfold source srcR
        have hl : (st[i]?.map (·.ls)).getD [] = p.ls := by rw [hp]; rfl
        simp only [hn, hva, hl, Bool.true_eq_false, if_false]
        rfl
      refine Calls.mono (dsource_done h h8 n a ha hn hva hp (hls p (List.mem_of_getElem? hp)) (hR p (List.mem_of_getElem? hp))) ?_
      rintro e' w' ⟨⟨r, h1, h2⟩, h3⟩
      rw [e, ← h2]
      exact ⟨h1, h3⟩
end
end Go.Proofs.Ytefbcigccfkkgaa.WIf
