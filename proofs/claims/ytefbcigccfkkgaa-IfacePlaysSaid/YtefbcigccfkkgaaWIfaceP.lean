import Derived.Test.YtefbcigccfkkgaaWIfaceD9
set_option linter.unusedVariables false
set_option linter.unusedSimpArgs false
namespace Go.Proofs.Ytefbcigccfkkgaa.WIf
open Go.RowKit Go.Maps Go.WideMaps Go.Proofs.Ytefbcigccfkkgaa.PBase Go.Proofs.YtefbcigccfkkgaaW.PrintWords Go.Proofs.YtefbcigccfkkgaaW.PrintLast Go.Proofs.YtefbcigccfkkgaaW.PrintMore Go.Proofs.Ytefbcigccfkkgaa.If
attribute [local go_sem] max2_int min2_int max_two min_two
def Ads (st : St) : Prop := ∀ p ∈ st, ∀ l ∈ p.ls, AdOk l.f0
theorem rng_of {st : St} (h : Ads st) (hI : Inv st) : Rng st := fun p hp l hl => ⟨h p hp l hl, ((hI.rows p hp).2 l hl).1⟩
theorem ads_nil : Ads [] := fun p hp => by cases hp
theorem ads_mod {st : St} (h : Ads st) (i : Nat) (f : Pt → Pt) (hf : ∀ p, p ∈ st → ∀ l ∈ (f p).ls, AdOk l.f0) : Ads (st.modify i f) := fun q hq => by
  rcases mod_mem hq with ⟨p, h1, rfl⟩ | q1
  · exact hf p (List.mem_of_getElem? h1)
  · exact h q q1
theorem ads_step {st : St} (h : Ads st) (x : Sp) (hx : AdOk x.addr) : Ads (If.step st x).1 := by
  unfold If.step
  split
  · unfold add
    split
    · exact h
    split
    · exact h
    split
    · exact h
    · intro p hp
      rcases List.mem_append.1 hp with q | q
      · exact h p q
      · rw [List.mem_singleton.1 q]
        intro l hl
        cases hl
  split
  · unfold turn
    split
    · exact h
    · exact ads_mod h _ _ (fun p hp => h p hp)
  split
  · unfold drop
    split
    · exact h
    · split
      · exact h
      · exact ads_mod h _ _ (fun p hp l hl => h p hp l ((List.eraseIdx_sublist _ _).subset hl))
  · unfold put
    split
    · exact h
    split
    · exact h
    split
    · exact h
    · refine ads_mod h _ _ (fun p hp l hl => ?_)
      rcases List.mem_append.1 hl with q | q
      · exact h p hp l q
      · rw [List.mem_singleton.1 q]
        exact hx
def Two (W : World) (B sb db : Nat) (st dt : St) : Prop :=
  ∃ S mb v xs S' v1 v2 ls, Mem W S sb mb v xs st ∧ Dem W S' db v1 v2 ls dt ∧ (∀ k, S k → B ≤ k) ∧ (∀ k, S' k → B ≤ k) ∧ ∀ k, S k → ¬ S' k
section
variable {w W W1 : World} {B sb db : Nat} {st dt st' dt' : St}
theorem Two.below (h : Two W B sb db st dt) (hb : Below W.heap.size W W1) : Two W1 B sb db st dt := by
  obtain ⟨S, mb, v, xs, S', v1, v2, ls, h1, h2, h3⟩ := h
  exact ⟨S, mb, v, xs, S', v1, v2, ls, h1.below hb, h2.below hb, h3⟩
theorem Two.has (h : Two W B sb db st dt) : Has W B (fun _ => False) sb st := by
  obtain ⟨S, mb, v, xs, S', v1, v2, ls, h1, h2, h3, h4, h5⟩ := h
  exact ⟨S, mb, v, xs, h1, fun k hk => ⟨h3 k hk, fun q => q⟩⟩
theorem Two.dhas (h : Two W B sb db st dt) : DHas W B (fun _ => False) db dt := by
  obtain ⟨S, mb, v, xs, S', v1, v2, ls, h1, h2, h3, h4, h5⟩ := h
  exact ⟨S', v1, v2, ls, h2, fun k hk => ⟨h4 k hk, fun q => q⟩⟩
theorem two_do (h : Two w B sb db st dt) (hI : Inv st) (hB : B ≤ w.heap.size) (x : SI) (hx : Fit x) :
    Calls Try.prog 15 #[.pointer (some ⟨sb, 0, none⟩), .agg (stA x)] w fun e w' => e = .returned (.tuple #[.int .i64 (If.step st (spOf x)).2.1, .int .i64 (If.step st (spOf x)).2.2]) ∧ Two w' B sb db (If.step st (spOf x)).1 dt ∧ Below B w w' := by
  obtain ⟨S, mb, v, xs, S', v1, v2, ls, h1, h2, h3, h4, h5⟩ := h
  refine Calls.mono (do_calls h1 hI x hx) ?_
  rintro e w' ⟨he, S2, v', xs', g1, g2, g3⟩
  refine ⟨he, ⟨S2, mb, v', xs', S', v1, v2, ls, g1, h2.keep g3.size (fun k hk => g3.block k (h2.lt k hk) (fun q => h5 k q hk)), ?_, h4, ?_⟩, g3.below (Below.refl _ _) hB h3⟩
  · intro k hk
    rcases g2 k hk with q | q
    · exact h3 k q
    · omega
  · intro k hk hk'
    rcases g2 k hk with q | q
    · exact h5 k q hk'
    · have := h2.lt k hk'; omega
theorem two_does (h : Two w B sb db st dt) (hI : Inv dt) (hB : B ≤ w.heap.size) (x : SI) (hx : Fit x) (ha : AdOk x.f6) :
    Calls Try.prog 16 #[.pointer (some ⟨db, 0, none⟩), .agg (stA x)] w fun e w' => e = .returned (.tuple #[.int .i64 (If.step dt (spOf x)).2.1, .int .i64 (If.step dt (spOf x)).2.2]) ∧ Two w' B sb db st (If.step dt (spOf x)).1 ∧ Below B w w' := by
  obtain ⟨S, mb, v, xs, S', v1, v2, ls, h1, h2, h3, h4, h5⟩ := h
  refine Calls.mono (does_calls h2 hI x hx ha) ?_
  rintro e w' ⟨he, S2, u1, u2, ls', g1, g2, g3⟩
  refine ⟨he, ⟨S, mb, v, xs, S2, u1, u2, ls', h1.keep g3.size (fun k hk => g3.block k (h1.lt k hk) (fun q => h5 k hk q)), g1, h3, ?_, ?_⟩, g3.below (Below.refl _ _) hB h4⟩
  · intro k hk
    rcases g2 k hk with q | q
    · exact h4 k q
    · omega
  · intro k hk hk'
    rcases g2 k hk' with q | q
    · exact h5 k hk q
    · have := h1.lt k hk; omega
end
def Rw (w : World) (B : Nat) (A : Option Addr) (n c : Nat) : Prop := ∃ L : List Lo, L.length = n ∧ RowK k34 34 w (.slice A n c) L ∧ ∀ k, (Value.slice A n c).ownBlock = some k → B ≤ k
theorem plL : Plain k34 lcs := ⟨fun h => k34_openM h, fun w b ok x => k34_mkM w b ok x⟩
theorem rw_cell {w : World} {B n c i : Nat} {A : Option Addr} (h : Rw w B A n c) (hi : i < n) : ∃ g, A = some ⟨g, 0, none⟩ ∧ B ≤ g ∧ (∃ u, w.cell? ⟨g, i * 4 + 3, none⟩ = some (.int .i64 u)) ∧ w.frozen? ⟨g, i * 4 + 3, none⟩ = false ∧ Rw (w.setCell ⟨g, i * 4 + 3, none⟩ (.int .i64 77)) B A n c := by
  obtain ⟨L, rfl, hR, hB⟩ := h
  obtain ⟨g, c', e⟩ := hR.shape (by omega)
  injection e with e1 _ e2
  subst e1
  have hx : L[i]? = some L[i] := List.getElem?_eq_getElem hi
  obtain ⟨h1, h2⟩ := RowK.cell plL hR hx (j := 3) (u := .int .i64 L[i].f1) rfl (by decide)
  refine ⟨g, rfl, hB g rfl, ⟨_, h1⟩, h2, L.set i ⟨L[i].f0, 77⟩, by rw [List.length_set], ?_, hB⟩
  exact RowK.set plL hR (j := 3) hx (by decide) rfl
theorem cells9y {w : World} {ad : Addr} {xs : List SI} (h : Kd.C k45 w (some ad) xs.length xs) {j : Nat} {y : Int} (hy : (j : Int) = y) {x : SI} (hx : xs[j]? = some x) : w.cell? (ad.add (y.toNat * 9)) = some (.int .i64 x.f0) ∧ w.cell? ⟨(ad.add (y.toNat * 9)).block, (ad.add (y.toNat * 9)).off + 1, none⟩ = some (.string x.f1) ∧ w.cell? ⟨(ad.add (y.toNat * 9)).block, (ad.add (y.toNat * 9)).off + 2, none⟩ = some (.int .u64 x.f2) ∧
    w.cell? ⟨(ad.add (y.toNat * 9)).block, (ad.add (y.toNat * 9)).off + 3, none⟩ = some (.int .i64 x.f3) ∧ w.cell? ⟨(ad.add (y.toNat * 9)).block, (ad.add (y.toNat * 9)).off + 4, none⟩ = some (.int .i64 x.f4) ∧ w.cell? ⟨(ad.add (y.toNat * 9)).block, (ad.add (y.toNat * 9)).off + 5, none⟩ = some (.bool x.f5) ∧ w.cell? ⟨(ad.add (y.toNat * 9)).block, (ad.add (y.toNat * 9)).off + 6, none⟩ = some (.bool x.f6.f0) ∧
    w.cell? ⟨(ad.add (y.toNat * 9)).block, (ad.add (y.toNat * 9)).off + 7, none⟩ = some (.int .u64 x.f6.f1) ∧ w.cell? ⟨(ad.add (y.toNat * 9)).block, (ad.add (y.toNat * 9)).off + 8, none⟩ = some (.int .u64 x.f6.f2) := by
  obtain ⟨ad', e, h9⟩ := cells9 h hx
  obtain rfl := Option.some.inj e
  have e2 : y.toNat = j := by omega
  rw [e2]
  exact h9
theorem ads_made {xs : List SI} (h : ∀ x ∈ xs, AdOk x.f6) (j : Nat) : Ads (madeAt xs j) := by
  induction j with
  | zero => exact ads_nil
  | succ j ih =>
    by_cases hj : j < xs.length
    · rw [madeAt_succ (List.getElem?_eq_getElem hj)]
      exact ads_step ih _ (h _ (List.getElem_mem hj))
    · have e : madeAt xs (j + 1) = madeAt xs j := by
        unfold madeAt
        rw [List.take_of_length_le (by omega), List.take_of_length_le (by omega)]
      rw [e]
      exact ih
set_option maxHeartbeats 8000000 in
set_option maxRecDepth 100000 in
theorem plays (A : Option Addr) (c : Nat) (xs : List SI) (w : World) (hC : Kd.C k45 w A xs.length xs) (hl : xs.length ≤ 140737488355328) (hfit : ∀ x ∈ xs, Fit x) (hads : ∀ x ∈ xs, AdOk x.f6) :
    Calls Try.prog 4 #[.slice A xs.length c] w fun e w' => e = .returned (.bool true) ∧ Below w.heap.size w w' := by
  have HC := Aside0.mk hC
  have HFIT := Aside0.mk hfit
  have HADS := Aside0.mk hads
  clear hC hfit hads
  go_enter Try.func4, Try.ntmps4
  go_wp2_with fail
  refine Calls.mono (awake_calls w) ?_
  rintro e w1 ⟨rfl, hb⟩
  have HB := Aside0.mk hb
  clear hb
  go_wp2_with fail
  refine Calls.mono (new_calls w1) ?_
  rintro e w2 ⟨sb, mb, S, rfl, hm, hS, hb⟩
  have hw1 := HB.out.size
  replace HB := Aside0.mk (below_step HB.out hb)
  have HS := Aside0.mk (show ∀ k, S k → w.heap.size ≤ k from fun k hk => Nat.le_trans hw1 (hS k hk))
  clear hw1
  have HM := Aside0.mk hm
  clear hb hm hS
  go_wp2_with fail
  refine Calls.mono (dnew_calls w2) ?_
  rintro e w3 ⟨db, S', rfl, hd, hS', hb⟩
  have HT := Aside0.mk (show Two w3 w.heap.size sb db (madeAt xs 0) (madeAt xs 0) from ⟨S, mb, _, _, S', _, _, _, HM.out.below hb, hd, HS.out, fun k hk => Nat.le_trans HB.out.size (hS' k hk), fun k hk hk' => by have := HM.out.lt k hk; have := hS' k hk'; omega⟩)
  replace HB := Aside0.mk (below_step HB.out hb)
  clear hb hd hS' HM HS
  go_wp2_with fail
  go_loopg [6] (min xs.length 60) (fun kq v6 w' => ∃ (j : Nat), v6 = .int .i64 (j : Int) ∧ Aside0 (j + kq = min xs.length 60) ∧ Aside0 (Two w' w.heap.size sb db (madeAt xs j) (madeAt xs j)) ∧ Aside0 (Below w.heap.size w w'))
  case atStart => exact ⟨0, rfl, ⟨by omega⟩, HT, HB⟩
  case round =>
    clear HT HB
    obtain ⟨j, rfl, HJ, HT, HB⟩ := hrel
    have hj0 := HJ.out
    obtain ⟨y, hy⟩ : ∃ y : Int, (j : Int) = y := ⟨_, rfl⟩
    by_cases hj : j < xs.length
    · by_cases h60 : j < 60
      · obtain ⟨x, hx⟩ : ∃ x, xs[j]? = some x := ⟨_, List.getElem?_eq_getElem hj⟩
        obtain ⟨ad, e, _⟩ := cells9 HC.out hx
        subst e
        have HCF := Aside0.mk (fun (W : World) (hb : Below w.heap.size w W) => cells9y (Kd.C_below HC.out hb) hy hx)
        have HF := Aside0.mk (HFIT.out x (List.mem_of_getElem? hx))
        have HA := Aside0.mk (HADS.out x (List.mem_of_getElem? hx))
        have HMS := Aside0.mk (madeAt_succ hx)
        have HI := Aside0.mk (inv_made xs j)
        have HI2 := Aside0.mk (inv_made xs (j + 1))
        have HR2 := Aside0.mk (rng_of (ads_made HADS.out (j + 1)) HI2.out)
        rw [HMS.out] at HI2 HR2
        have hdo := fun W (hW : Two W w.heap.size sb db (madeAt xs j) (madeAt xs j)) (hB : w.heap.size ≤ W.heap.size) => two_do hW HI.out hB x HF.out
        have hdoes := fun W (hW : Two W w.heap.size sb db (If.step (madeAt xs j) (spOf x)).1 (madeAt xs j)) (hB : w.heap.size ≤ W.heap.size) => two_does hW HI.out hB x HF.out HA.out
        generalize If.step (madeAt xs j) (spOf x) = r at hdo hdoes HMS HI2 HR2
        obtain ⟨r0, r1, r2⟩ := r
        simp only at hdo hdoes HMS HI2 HR2
        rw [hy]
        have HY := Aside0.mk hy
        have b1 : decide (y < (xs.length : Int)) = true := decide_eq_true (by omega)
        have b2 : decide (y < 60) = true := decide_eq_true (by omega)
        have p1 : (0 ≤ y) = True := eq_true (by omega)
        have q1 : (y < (xs.length : Int)) = True := eq_true (by omega)
        have hn : wrap64 (y + 1) = ((j + 1 : Nat) : Int) := by unfold wrap64; omega
        have HN := Aside0.mk hn
        obtain ⟨gk0, rfl⟩ : ∃ q, gk = q + 1 := ⟨gk - 1, by omega⟩
        clear hx hy hn hj h60 hj0
        obtain ⟨x0, x1, x2, x3, x4, x5, x6, x7, x8⟩ := HCF.out _ HB.out
        go_wp2_with fail
        refine Calls.mono (hdo _ HT.out HB.out.size) ?_
        rintro e w4 ⟨rfl, ht, hb⟩
        replace HT := Aside0.mk ht
        replace HB := Aside0.mk (HB.out.trans hb)
        clear ht hb hdo x0 x1 x2 x3 x4 x5 x6 x7 x8
        obtain ⟨x0, x1, x2, x3, x4, x5, x6, x7, x8⟩ := HCF.out _ HB.out
        go_wp2_with fail
        refine Calls.mono (hdoes _ HT.out HB.out.size) ?_
        rintro e w5 ⟨rfl, ht, hb⟩
        replace HT := Aside0.mk ht
        replace HB := Aside0.mk (HB.out.trans hb)
        clear ht hb hdoes x0 x1 x2 x3 x4 x5 x6 x7 x8
        obtain ⟨x0, x1, x2, x3, x4, x5, x6, x7, x8⟩ := HCF.out _ HB.out
        go_wp2_with fail
        refine Calls.mono (tells_calls HT.out.has HT.out.dhas HI2.out HR2.out HF.out HA.out) ?_
        rintro e w6 ⟨rfl, hb⟩
        replace HT := Aside0.mk (HT.out.below hb)
        replace HB := Aside0.mk (below_step HB.out hb)
        clear hb x0 x1 x2 x3 x4 x5 x6 x7 x8
        obtain ⟨x0, x1, x2, x3, x4, x5, x6, x7, x8⟩ := HCF.out _ HB.out
        have hlocs := has_locals HT.out.has HI2.out x.f4
        have HL8 := Aside0.mk (locals8 (Inv.ls8 HI2.out) x.f4)
        generalize locals r0 x.f4 = L at hlocs HL8
        go_wp2_with fail
        refine Calls.mono hlocs ?_
        rintro e w7 ⟨⟨A1, cc1, rfl, hC1, hRL, hge⟩, hb⟩
        have HRW := Aside0.mk (show Rw w7 w6.heap.size A1 L.length cc1 from ⟨L, rfl, hRL, hge⟩)
        have HB7 := Aside0.mk hb
        have hlen : (L.length : Int) ≤ 8 := by have := HL8.out; omega
        clear hb hlocs hC1 hRL hge x0 x1 x2 x3 x4 x5 x6 x7 x8
        obtain ⟨m, hm⟩ : ∃ m, L.length = m := ⟨_, rfl⟩
        rw [hm] at HRW hlen ⊢
        clear hm HL8
        go_wp2_with fail
        go_loopg [12] m (fun kq v12 w' => ∃ (k : Nat), v12 = .int .i64 (k : Int) ∧ Aside0 (k + kq = m) ∧ Aside0 (Below w6.heap.size w6 w') ∧ Aside0 (Rw w' w6.heap.size A1 m cc1))
        case atStart => exact ⟨0, rfl, ⟨by omega⟩, HB7, HRW⟩
        case round =>
          clear HB7 HRW
          obtain ⟨k, rfl, HK, HB7, HRW⟩ := hrel
          obtain ⟨z, hz⟩ : ∃ z : Int, (k : Int) = z := ⟨_, rfl⟩
          by_cases hk : k < m
          · obtain ⟨g, e, hg, ⟨u, hu⟩, hfr, hrw⟩ := rw_cell HRW.out hk
            subst e
            have HG := Aside0.mk hg
            have HRW2 := Aside0.mk hrw
            have hzk : z.toNat = k := by omega
            have hwz : wrap64 (z + 1) = ((k + 1 : Nat) : Int) := by unfold wrap64; omega
            have HZ := Aside0.mk hz
            have HWZ := Aside0.mk hwz
            have b3 : decide (z < (m : Int)) = true := decide_eq_true (by omega)
            have p3 : (0 ≤ z) = True := eq_true (by omega)
            have q3 : (z < (m : Int)) = True := eq_true (by omega)
            obtain ⟨gk2, rfl⟩ : ∃ q, gk = q + 1 := ⟨gk - 1, by have := HK.out; omega⟩
            rw [hz]
            clear hz hwz hg hrw
            go_wp2
            go_roundg gk2
            case measure => omega
            case rel => exact ⟨k + 1, by first | rw [HWZ.out] | exact congrArg _ (by have := HZ.out; omega), ⟨by have := HK.out; omega⟩, ⟨below_set HB7.out HG.out⟩, HRW2⟩
          · have b3 : decide (z < (m : Int)) = false := decide_eq_false (by omega)
            have HT3 := Aside0.mk (HT.out.below HB7.out)
            have HB3 := Aside0.mk (below_step HB.out HB7.out)
            rw [hz]
            clear hz hk
            go_wp2
            go_roundg gk0
            case measure => omega
            case rel => exact ⟨j + 1, by first | rw [HN.out] | exact congrArg _ (by have := HY.out; omega), ⟨by have := HJ.out; omega⟩, ⟨by rw [HMS.out]; exact HT3.out⟩, HB3⟩
      · have b1 : decide (y < (xs.length : Int)) = true := decide_eq_true (by omega)
        have b2 : decide (y < 60) = false := decide_eq_false (by omega)
        rw [hy]
        clear hy hj h60 hj0
        go_wp2
        go_ret
        exact ⟨rfl, HB.out⟩
    · have b1 : decide (y < (xs.length : Int)) = false := decide_eq_false (by omega)
      rw [hy]
      clear hy hj hj0
      go_wp2
      go_ret
      exact ⟨rfl, HB.out⟩
theorem ads_of {x : SI} (h : GSI x) : AdOk x.f6 := ⟨⟨(wf_u64 h.2.2.2.2.2.2.2.1).1, by have := (wf_u64 h.2.2.2.2.2.2.2.1).2; omega⟩, ⟨(wf_u64 h.2.2.2.2.2.2.2.2).1, by have := (wf_u64 h.2.2.2.2.2.2.2.2).2; omega⟩⟩
theorem playsCalls (A : Option Addr) (c : Nat) (ls : List SI) (hl : ls.length * 80 ≤ 140737488351232) (hf : ∀ x ∈ ls, GSI x) (w : World) (hr : Kd.C k45 w A ls.length ls) (hc : ls.length ≤ c) :
    Calls Try.prog 4 #[.slice A ls.length c] w fun e w' => e = .returned (.bool true) ∧ Below w.heap.size w w' :=
  plays A c ls w hr (by omega) (fun x hx => fit_of (hf x hx)) (fun x hx => ads_of (hf x hx))
end Go.Proofs.Ytefbcigccfkkgaa.WIf
