import Derived.Test.YtefbcigccfkkgaaMIfaceD
import Derived.Test.YtefbcigccfkkgaaPureIfaceD
set_option linter.unusedVariables false
set_option linter.unusedSimpArgs false
namespace Go.Proofs.Ytefbcigccfkkgaa.WIf
open Go.RowKit Go.Maps Go.WideMaps Go.Proofs.Ytefbcigccfkkgaa.PBase Go.Proofs.YtefbcigccfkkgaaW.PrintWords Go.Proofs.YtefbcigccfkkgaaW.PrintLast Go.Proofs.YtefbcigccfkkgaaW.PrintMore Go.Proofs.Ytefbcigccfkkgaa.If
attribute [local go_sem] max2_int min2_int max_two min_two
attribute [local go_sem high] eqA25
section
variable {w : World} {S : Nat → Prop} {db : Nat} {v1 v2 : Value} {ls : List Sl} {st : St}
theorem dem_new (w : World) : Dem (w.alloc (.cells #[.slice none 0 0, .slice none 0 0] 75 (0, 0))) (fun k => k = w.heap.size) w.heap.size (.slice none 0 0) (.slice none 0 0) [] [] where
  blk := blk_new w _
  rowP := RowK.of plP (Kd.R_nil k50 _ _ 0 (fun _ => True))
  rowL := RowK.of plS (Kd.R_nil kSl _ _ 0 (fun _ => True))
  len := rfl
  like := fun i p x hp _ => by simp at hp
  sep := fun i j x y _ hx _ => by simp at hx
  its := ⟨rfl, fun k hk => by simp [Value.ownBlock] at hk, fun k hk => by simp [Value.ownBlock] at hk, fun x hx => by cases hx⟩
  lt := fun k hk => by
    show k < (w.heap.push _).size
    rw [Array.size_push]
    omega
set_option maxHeartbeats 1000000 in
set_option maxRecDepth 100000 in
theorem dnew_calls (w : World) : Calls Try.prog 14 #[] w fun e w' => ∃ db S, e = .returned (.pointer (some ⟨db, 0, none⟩)) ∧ Dem w' S db (.slice none 0 0) (.slice none 0 0) [] [] ∧ (∀ k, S k → w.heap.size ≤ k) ∧ Below w.heap.size w w' := by
  have hu := Try.underlying75
  go_enter Try.func14, Try.ntmps14
  go_wp2
  go_ret
  refine ⟨_, _, rfl, dem_new w, ?_, ?_⟩
  · rintro k rfl; omega
  · exact below_alloc (Below.refl _ _) _
set_option maxHeartbeats 1000000 in
set_option maxRecDepth 100000 in
theorem there_calls (h : Dem w S db v1 v2 ls st) (h8 : st.length ≤ 8) (n : Int) :
    Calls Try.prog 53 #[.pointer (some ⟨db, 0, none⟩), .int .i64 n] w fun e w' => e = .returned (.bool (at? st n).isSome) ∧ w = w' := by
  obtain ⟨x0, x1⟩ := MBlk.c2 h.blk
  obtain ⟨A, c, e⟩ := h.rowP.slice
  rw [List.length_map] at e
  subst e
  by_cases h1 : 1 ≤ n
  · by_cases h2 : n ≤ (st.length : Int)
    · have hb : (at? st n).isSome = true := by unfold at?; rw [if_neg (by omega)]; rfl
      rw [hb]
      clear hb h
      go_enter Try.func53, Try.ntmps53
      go_wp2
      go_ret
      exact ⟨rfl, rfl⟩
    · have hb : (at? st n).isSome = false := by unfold at?; rw [if_pos (.inr (by omega))]; rfl
      rw [hb]
      clear hb h
      go_enter Try.func53, Try.ntmps53
      go_wp2
      go_ret
      exact ⟨rfl, rfl⟩
  · have hb : (at? st n).isSome = false := by unfold at?; rw [if_pos (.inl (by omega))]; rfl
    rw [hb]
    clear hb h
    go_enter Try.func53, Try.ntmps53
    go_wp2
    go_ret
    exact ⟨rfl, rfl⟩
theorem datP (h : Dem w S db v1 v2 ls st) {n : Int} {i : Nat} (hn : at? st n = some i) : ∃ p pb c, st[i]? = some p ∧ v1 = .slice (some ⟨pb, 0, none⟩) st.length c ∧ S pb ∧ (∀ {j u}, (poL (pOf p))[j]? = some u → w.cell? ⟨pb, i * 4 + j, none⟩ = some u ∧ w.frozen? ⟨pb, i * 4 + j, none⟩ = false) := by
  obtain ⟨hi, _⟩ := at_lt hn
  obtain ⟨pb, c, e⟩ := h.rowP.shape (by rw [List.length_map]; omega)
  rw [List.length_map] at e
  refine ⟨st[i], pb, c, List.getElem?_eq_getElem hi, e, h.its.2.1 pb (by rw [e]; rfl), fun {j u} hu => ?_⟩
  exact RowK.cell plP (e ▸ h.rowP) (x := pOf st[i]) (by rw [List.getElem?_map, List.getElem?_eq_getElem hi]; rfl) hu (List.getElem?_eq_some_iff.1 hu).1
theorem datL (h : Dem w S db v1 v2 ls st) {i : Nat} (hi : i < st.length) : ∃ x lb c, ls[i]? = some x ∧ v2 = .slice (some ⟨lb, 0, none⟩) st.length c ∧ S lb ∧ w.cell? ⟨lb, i, none⟩ = some (sv x) ∧ w.frozen? ⟨lb, i, none⟩ = false := by
  have hl := h.len
  obtain ⟨lb, c, e⟩ := h.rowL.shape (by omega)
  rw [hl] at e
  have hx : ls[i]? = some ls[i] := List.getElem?_eq_getElem (by omega)
  refine ⟨ls[i], lb, c, hx, e, h.its.2.2.1 lb (by rw [e]; rfl), ?_⟩
  have := RowK.cell plS (e ▸ h.rowL) hx (j := 0) (u := sv ls[i]) rfl (by decide)
  rw [show i * kSl.sz + 0 = i by show i * 1 + 0 = i; omega] at this
  exact this
set_option maxHeartbeats 1000000 in
set_option maxRecDepth 100000 in
theorem dturn_calls (h : Dem w S db v1 v2 ls st) (h8 : st.length ≤ 8) (n : Int) (up : Bool) :
    Calls Try.prog 33 #[.pointer (some ⟨db, 0, none⟩), .int .i64 n, .bool up] w fun e w' => e = .returned (.int .i64 (turn st n up).2) ∧ DStepped w w' S db (turn st n up).1 := by
  have hth := there_calls h h8 n
  cases hn : at? st n with
  | none =>
    have e : turn st n up = (st, 132) := by unfold turn; rw [hn]
    rw [e]
    rw [hn] at hth
    go_enter Try.func33, Try.ntmps33
    go_wp2_with fail
    refine Calls.mono hth ?_
    rintro e w' ⟨rfl, rfl⟩
    go_wp2
    go_ret
    exact ⟨rfl, DStepped.same h (Below.refl _ _)⟩
  | some i =>
    have e : turn st n up = (st.modify i fun p => { p with up := up }, 0) := by unfold turn; rw [hn]
    rw [e]
    obtain ⟨p, pb, c, hp, hv, hS, hcell⟩ := datP h hn
    obtain ⟨hc, hf⟩ := hcell (j := 3) rfl
    obtain ⟨x0, x1⟩ := MBlk.c2 h.blk
    have hm := h.setUp hv hp up
    obtain ⟨hi, rfl⟩ := at_lt hn
    rw [hn] at hth
    rw [hv] at x0
    obtain ⟨x, hx⟩ : ∃ x : Int, (i : Int) + 1 = x := ⟨_, rfl⟩
    obtain ⟨y, hy⟩ : ∃ y : Int, (i : Int) = y := ⟨_, rfl⟩
    have hyi : y.toNat = i := by omega
    have hw : wrap64 (x - 1) = y := by unfold wrap64; omega
    have p1 : (0 ≤ y) = True := eq_true (by omega)
    have q1 : (y < (st.length : Int)) = True := eq_true (by omega)
    rw [hx] at hth ⊢
    clear h e hp hn hv hi hx hy hcell
    go_enter Try.func33, Try.ntmps33
    go_wp2_with fail
    refine Calls.mono hth ?_
    rintro e w' ⟨rfl, rfl⟩
    go_wp2
    go_ret
    exact ⟨rfl, ⟨_, _, _, _, hm, fun k hk => .inl hk, Fr.set _ _ _ _ hS⟩⟩
set_option maxHeartbeats 1000000 in
set_option maxRecDepth 100000 in
theorem dport_calls (h : Dem w S db v1 v2 ls st) (h8 : st.length ≤ 8) (n : Int) :
    Calls Try.prog 36 #[.pointer (some ⟨db, 0, none⟩), .int .i64 n] w fun e w' => e = .returned (.tuple #[.agg #[.string (portR st n).1.f0, .int .u64 (portR st n).1.f1, .int .i64 (portR st n).1.f2, .bool (portR st n).1.f3], .bool (portR st n).2]) ∧ Below w.heap.size w w' := by
  have hu50 := Try.underlying50
  have HB := Aside0.mk (Below.refl w.heap.size w)
  cases hn : at? st n with
  | none =>
    have e : portR st n = (z50, false) := by unfold portR; rw [hn]
    rw [e]
    go_enter Try.func36, Try.ntmps36
    go_wp2_with (first | ((with_reducible refine gate_dst (N := 4) rfl ?_); refine sh_E 4 50 #[.string (⟨#[]⟩ : ByteArray), .int .u64 0, .int .i64 0, .bool false] ?_; intro g hg w1 hbox hb; have BK := Aside0.mk hbox; have GE := sh_G HB hg; replace HB := sh_S HB hb; obtain ⟨c0, c1, c2, c3⟩ := MBlk.c4 hbox; obtain ⟨f0, f1, f2, f3⟩ := MBlk.f4 hbox; have HM := Aside0.mk (h.below hb); clear hbox hb hg) | fail)
    have hth := there_calls HM.out h8 n
    rw [hn] at hth
    refine Calls.mono hth ?_
    rintro e w' ⟨rfl, rfl⟩
    clear hth
    go_wp2
    refine bodyPost_ret (results_ct rfl _ _ g 50 #[.string (⟨#[]⟩ : ByteArray), .int .u64 0, .int .i64 0, .bool false] (0, 0) _ rfl (put4 BK.out) hu50 rfl (by kernel_rfl)) rfl ?_
    exact ⟨rfl, sh_B HB⟩
  | some i =>
    obtain ⟨p, pb, c, hp, hv, hS, hcell⟩ := datP h hn
    have e : portR st n = (⟨p.nm, p.mac, p.mtu, p.up⟩, true) := by unfold portR; rw [hn]; simp only [hp]
    rw [e]
    have p0 := (hcell (j := 0) rfl).1
    have p1 := (hcell (j := 1) rfl).1
    have p2 := (hcell (j := 2) rfl).1
    have p3 := (hcell (j := 3) rfl).1
    rw [Nat.add_zero] at p0
    obtain ⟨x0, x1⟩ := MBlk.c2 h.blk
    rw [hv] at x0
    obtain ⟨hi, hni⟩ := at_lt hn
    obtain ⟨y, hy⟩ : ∃ y : Int, (i : Int) = y := ⟨_, rfl⟩
    have hyi : y.toNat = i := by omega
    have hw : wrap64 (n - 1) = y := by unfold wrap64; omega
    have z1 : (0 ≤ y) = True := eq_true (by omega)
    have q1 : (y < (st.length : Int)) = True := eq_true (by omega)
    clear e hcell hni hy hi
    go_enter Try.func36, Try.ntmps36
    go_wp2_with (first | ((with_reducible refine gate_dst (N := 4) rfl ?_); refine sh_E 4 50 #[.string (⟨#[]⟩ : ByteArray), .int .u64 0, .int .i64 0, .bool false] ?_; intro g hg w1 hbox hb; have BK := Aside0.mk hbox; have GE := sh_G HB hg; replace HB := sh_S HB hb; obtain ⟨c0, c1, c2, c3⟩ := MBlk.c4 hbox; obtain ⟨f0, f1, f2, f3⟩ := MBlk.f4 hbox; replace p0 := pw_cell_below hb p0; replace p1 := pw_cell_below hb p1; replace p2 := pw_cell_below hb p2; replace p3 := pw_cell_below hb p3; replace x0 := pw_cell_below hb x0; have HM := Aside0.mk (h.below hb); clear hbox hb hg) | fail)
    have hth := there_calls HM.out h8 n
    rw [hn] at hth
    refine Calls.mono hth ?_
    rintro e w' ⟨rfl, rfl⟩
    clear hth
    go_wp2
    refine bodyPost_ret (results_ct rfl _ _ g 50 #[.string p.nm, .int .u64 p.mac, .int .i64 p.mtu, .bool p.up] (0, 0) _ rfl (put4 BK.out) hu50 rfl (by kernel_rfl)) rfl ?_
    exact ⟨rfl, sh_B HB⟩
set_option maxHeartbeats 1000000 in
set_option maxRecDepth 100000 in
theorem dlocals_calls (h : Dem w S db v1 v2 ls st) (h8 : st.length ≤ 8) (n : Int) :
    Calls Try.prog 39 #[.pointer (some ⟨db, 0, none⟩), .int .i64 n] w fun e w' => (∃ A c, e = .returned (.slice A (locals st n).length c) ∧ (locals st n).length ≤ c ∧ k34.C w A (locals st n).length (locals st n)) ∧ w = w' := by
  have hth := there_calls h h8 n
  cases hn : at? st n with
  | none =>
    have e : locals st n = [] := by unfold locals; rw [hn]
    rw [e]
    rw [hn] at hth
    go_enter Try.func39, Try.ntmps39
    go_wp2_with fail
    refine Calls.mono hth ?_
    rintro e w' ⟨rfl, rfl⟩
    go_wp2
    go_ret
    exact ⟨⟨none, 0, rfl, Nat.le_refl _, by obtain ⟨A, c, e1, e2⟩ := RL.reads (RL.nil w); injection e1 with e1; rw [e1]; exact e2⟩, rfl⟩
  | some i =>
    obtain ⟨hi, hni⟩ := at_lt hn
    obtain ⟨x, lb, c, hx, hv, hS, hcell, _⟩ := datL h hi
    obtain ⟨p, hp⟩ : ∃ p, st[i]? = some p := ⟨_, List.getElem?_eq_getElem hi⟩
    have e : locals st n = p.ls := by unfold locals; simp only [hn, hp]; rfl
    rw [e]
    have hRL := h.like i p x hp hx
    obtain ⟨A, c', ex, hC⟩ := RL.reads hRL
    rw [ex] at hcell hRL
    have HLE := Aside0.mk (Kd.R_reads' hRL).2.1
    clear hRL
    obtain ⟨x0, x1⟩ := MBlk.c2 h.blk
    rw [hv] at x1
    rw [hn] at hth
    obtain ⟨y, hy⟩ : ∃ y : Int, (i : Int) = y := ⟨_, rfl⟩
    have hyi : y.toNat = i := by omega
    have hw : wrap64 (n - 1) = y := by unfold wrap64; omega
    have z1 : (0 ≤ y) = True := eq_true (by omega)
    have q1 : (y < (st.length : Int)) = True := eq_true (by omega)
    have HC := Aside0.mk hC
    clear e hni hy hi hC ex h hx hp hn
    go_enter Try.func39, Try.ntmps39
    go_wp2_with fail
    refine Calls.mono hth ?_
    rintro e w' ⟨rfl, rfl⟩
    go_wp2
    go_ret
    exact ⟨⟨A, c', rfl, HLE.out, HC.out⟩, rfl⟩
end
end Go.Proofs.Ytefbcigccfkkgaa.WIf
namespace Go.Proofs.Ytefbcigccfkkgaa.WIf
open Go.RowKit Go.Maps Go.WideMaps Go.Proofs.Ytefbcigccfkkgaa.PBase Go.Proofs.YtefbcigccfkkgaaW.PrintWords Go.Proofs.YtefbcigccfkkgaaW.PrintLast Go.Proofs.YtefbcigccfkkgaaW.PrintMore Go.Proofs.Ytefbcigccfkkgaa.If
attribute [local go_sem] max2_int min2_int max_two min_two
attribute [local go_sem high] eqA25
theorem ad_eq2 {a b : Ad} (h : a.f0 = b.f0 ∧ a.f1 = b.f1 ∧ a.f2 = b.f2) : a = b := by
  obtain ⟨h0, h1, h2⟩ := h
  cases a; cases b; simp_all
theorem named_drop_ {st : St} {s : ByteArray} : ∀ {i : Nat}, (∀ j p, j < i → st[j]? = some p → (p.nm.toList == s.toList) = false) → namedN st s = (namedN (st.drop i) s).map (· + i) := by
  intro i
  induction i generalizing st with
  | zero => intro _; cases h : namedN st s <;> simp [h]
  | succ i ih =>
    intro h
    cases st with
    | nil => rfl
    | cons l r =>
      have h0 := h 0 l (by omega) rfl
      have := ih (st := r) (fun j m hj hm => h (j + 1) m (by omega) (by simpa using hm))
      rw [named_cons, if_neg (by rw [h0]; decide), this, List.drop_succ_cons, Option.map_map]
      refine congrArg (fun f => Option.map f _) (funext fun x => ?_)
      simp only [Function.comp]; omega
section
variable {w : World} {S : Nat → Prop} {db : Nat} {v1 v2 : Value} {ls : List Sl} {st : St}
set_option maxHeartbeats 1000000 in
set_option maxRecDepth 100000 in
theorem dnamed_calls (h : Dem w S db v1 v2 ls st) (h8 : st.length ≤ 8) (s : ByteArray) :
    Calls Try.prog 42 #[.pointer (some ⟨db, 0, none⟩), .string s] w fun e w' => e = .returned (.int .i64 (named st s)) ∧ w = w' := by
  obtain ⟨x0, x1⟩ := MBlk.c2 h.blk
  obtain ⟨A, c, e⟩ := h.rowP.slice
  rw [List.length_map] at e
  have hat := fun (i : Nat) (p : Pt) (hp : st[i]? = some p) => datP h (n := (i : Int) + 1) (i := i) (by have := (List.getElem?_eq_some_iff.1 hp).1; unfold at?; rw [if_neg (by omega)]; exact congrArg some (by omega))
  have HAT := Aside0.mk hat
  have HE := Aside0.mk e
  rw [e] at x0
  clear h hat e
  go_enter Try.func42, Try.ntmps42
  go_wp2_with fail
  go_loopg [5] st.length (fun kq v5 w' => ∃ i : Nat, v5 = .int .i64 (i : Int) ∧ Aside0 (i + kq = st.length ∧ ∀ j p, j < i → st[j]? = some p → (p.nm.toList == s.toList) = false) ∧ w' = w)
  case atStart => exact ⟨0, rfl, ⟨by omega, fun j l hj => by omega⟩, rfl⟩
  case round =>
    obtain ⟨i, rfl, HI, rfl⟩ := hrel
    by_cases hi : i < st.length
    · obtain ⟨p, hp⟩ : ∃ p, st[i]? = some p := ⟨_, List.getElem?_eq_getElem hi⟩
      obtain ⟨p', pb, c', hp', hv, _, hcell⟩ := HAT.out i p hp
      obtain rfl : p = p' := Option.some.inj (hp.symm.trans hp')
      have p0 := (hcell (j := 0) (u := .string p.nm) rfl).1
      rw [Nat.add_zero] at p0
      have e2 := HE.out.symm.trans hv
      injection e2 with e2 _ _
      subst e2
      have hd := named_drop_ HI.out.2
      rw [List.drop_eq_getElem_cons hi, show st[i] = p from Option.some.inj ((List.getElem?_eq_getElem hi).symm.trans hp), named_cons] at hd
      have HP := Aside0.mk hp
      obtain ⟨x, hx⟩ : ∃ x : Int, (i : Int) = x := ⟨_, rfl⟩
      have hxi : x.toNat = i := by omega
      rw [hx]
      have HX := Aside0.mk hx
      rw [← hxi] at p0
      have b1 : decide (x < (st.length : Int)) = true := decide_eq_true (by omega)
      have p1 : (0 ≤ x) = True := eq_true (by omega)
      have q1 : (x < (st.length : Int)) = True := eq_true (by omega)
      have hn : wrap64 (x + 1) = ((i + 1 : Nat) : Int) := by unfold wrap64; omega
      have HN := Aside0.mk hn
      obtain ⟨gk, rfl⟩ : ∃ q, gk = q + 1 := ⟨gk - 1, by have := HI.out.1; omega⟩
      clear hn hcell hv hp hp' hi
      cases hq : (p.nm.toList == s.toList) with
      | true =>
        rw [if_pos hq] at hd
        have hv : named st s = x + 1 := by unfold named num; rw [hd]; simp only [Option.map_some]; have := HX.out; omega
        have HV := Aside0.mk hv
        clear hd hv hx hxi
        go_wp2
        go_ret
        have hx1 : wrap64 (x + 1) = x + 1 := by rw [HN.out]; have := HX.out; omega
        exact ⟨by rw [HV.out]; show Ending.returned (.int .i64 (wrap64 (x + 1))) = _; rw [hx1], rfl⟩
      | false =>
        have HQ := Aside0.mk hq
        clear hd hx hxi
        go_wp2
        go_roundg gk
        case measure => omega
        case rel => exact ⟨i + 1, by first | rw [HN.out] | exact congrArg _ (by have := HX.out; omega), ⟨by have := HI.out.1; omega, fun j m hj hm => by
          rcases Nat.lt_or_ge j i with q | q
          · exact HI.out.2 j m q hm
          · obtain rfl : j = i := by omega
            rw [HP.out] at hm
            obtain rfl := Option.some.inj hm
            exact HQ.out⟩, rfl⟩
    · have hd : named st s = 0 := by
        have := named_drop_ HI.out.2
        rw [List.drop_eq_nil_of_le (by omega)] at this
        unfold named
        rw [this]; rfl
      have HV := Aside0.mk hd
      obtain ⟨x, hx⟩ : ∃ x : Int, (i : Int) = x := ⟨_, rfl⟩
      have b1 : decide (x < (st.length : Int)) = false := decide_eq_false (by omega)
      rw [hx]
      clear hd hx hi
      go_wp2
      go_ret
      exact ⟨by rw [HV.out]; rfl, rfl⟩
set_option maxHeartbeats 4000000 in
set_option maxRecDepth 100000 in
theorem dmine_calls (h : Dem w S db v1 v2 ls st) (h8 : st.length ≤ 8) (hls : ∀ p ∈ st, p.ls.length ≤ 8) (a : Ad) :
    Calls Try.prog 41 #[.pointer (some ⟨db, 0, none⟩), .agg (adA a)] w fun e w' => e = .returned (.int .i64 (mine st a)) ∧ Below w.heap.size w w' := by
  have hu25 := Try.underlying25
  have HB := Aside0.mk (Below.refl w.heap.size w)
  obtain ⟨x0, x1⟩ := MBlk.c2 h.blk
  obtain ⟨A, c, e⟩ := h.rowL.slice
  rw [h.len] at e
  have HE := Aside0.mk e
  rw [e] at x1
  go_enter Try.func41, Try.ntmps41
  go_wp2_with (first | ((with_reducible refine gate_dst (N := 3) rfl ?_); refine sh_E 3 25 (adA a) ?_; intro g hg w1 hbox hb; replace HB := sh_S HB hb; have BK := Aside0.mk hbox; have HM := Aside0.mk (h.below hb); replace x1 := pw_cell_below hb x1; clear hbox hb hg) | fail)
  have X1 := Aside0.mk x1
  clear h e x0 x1
  go_loopg [5] st.length (fun kq v5 w' => ∃ i : Nat, v5 = .int .i64 (i : Int) ∧ Aside0 (i + kq = st.length ∧ ∀ j p, j < i → st[j]? = some p → place p.ls a = none) ∧ Aside0 (Below w1.heap.size w1 w'))
  case atStart => exact ⟨0, rfl, ⟨by omega, fun j l hj => by omega⟩, ⟨Below.refl _ _⟩⟩
  case round =>
    obtain ⟨i, rfl, HI, HC⟩ := hrel
    have x1 := pw_cell_below HC.out X1.out
    by_cases hi : i < st.length
    · obtain ⟨p, hp⟩ : ∃ p, st[i]? = some p := ⟨_, List.getElem?_eq_getElem hi⟩
      obtain ⟨y, lb, c', hy, hv, _, hcell, _⟩ := datL HM.out hi
      have e2 := HE.out.symm.trans hv
      injection e2 with e2 _ _
      subst e2
      obtain ⟨A2, c2, ex, hC⟩ := RL.reads (HM.out.like i p y hp hy)
      rw [ex] at hcell
      have HL := Aside0.mk hcell
      have HC2 := Aside0.mk hC
      have hp8 := hls p (List.mem_of_getElem? hp)
      have HP := Aside0.mk hp
      have hd := mine_drop_ HI.out.2
      rw [List.drop_eq_getElem_cons hi, show st[i] = p from Option.some.inj ((List.getElem?_eq_getElem hi).symm.trans hp), mine_cons] at hd
      have HD := Aside0.mk hd
      obtain ⟨x, hx⟩ : ∃ x : Int, (i : Int) = x := ⟨_, rfl⟩
      have hxi : x.toNat = i := by omega
      rw [hx]
      have HX := Aside0.mk hx
      have b1 : decide (x < (st.length : Int)) = true := decide_eq_true (by omega)
      have p1 : (0 ≤ x) = True := eq_true (by omega)
      have q1 : (x < (st.length : Int)) = True := eq_true (by omega)
      have hn : wrap64 (x + 1) = ((i + 1 : Nat) : Int) := by unfold wrap64; omega
      have HN := Aside0.mk hn
      obtain ⟨gk0, rfl⟩ : ∃ q, gk = q + 1 := ⟨gk - 1, by have := HI.out.1; omega⟩
      have hlen : (p.ls.length : Int) ≤ 8 := by omega
      clear hn hv hp hy hi hd hC ex hcell hx
      go_wp2_with fail
      go_loopg [6] p.ls.length (fun kq v6 w' => ∃ k : Nat, v6 = .int .i64 (k : Int) ∧ Aside0 (k + kq = p.ls.length ∧ ∀ j l, j < k → p.ls[j]? = some l → eqA l.f0 a = false) ∧ Aside0 (Below w1.heap.size w1 w'))
      case atStart => exact ⟨0, rfl, ⟨by omega, fun j l hj => by omega⟩, HC⟩
      case round =>
        clear HC x1
        obtain ⟨k, rfl, HK, HC⟩ := hrel
        have x1 := pw_cell_below HC.out X1.out
        have l0 := pw_cell_below HC.out HL.out
        by_cases hk : k < p.ls.length
        · obtain ⟨l, hl⟩ : ∃ l, p.ls[k]? = some l := ⟨_, List.getElem?_eq_getElem hk⟩
          obtain ⟨ad, e, z0, z1, z2, z3⟩ := at_T34 (Kd.C_below HC2.out HC.out) (k : Int) (by omega) (by omega)
          have hrd : rd_T34 p.ls (k : Int) = l := by
            unfold rd_T34
            rw [Int.toNat_natCast, List.getD_eq_getElem?_getD, hl, Option.getD_some]
          rw [hrd] at z0 z1 z2 z3
          subst e
          obtain ⟨c0, c1, c2'⟩ := MBlk.c3 (blk_below BK.out HC.out)
          have HGET := Aside0.mk hl
          obtain ⟨t, ht⟩ : ∃ t : Int, (k : Int) = t := ⟨_, rfl⟩
          rw [ht] at z0 z1 z2 z3 ⊢
          have HT := Aside0.mk ht
          have b2 : decide (t < (p.ls.length : Int)) = true := decide_eq_true (by omega)
          have p2 : (0 ≤ t) = True := eq_true (by omega)
          have q2 : (t < (p.ls.length : Int)) = True := eq_true (by omega)
          have htw : wrap64 (t + 1) = ((k + 1 : Nat) : Int) := by unfold wrap64; omega
          have HTW := Aside0.mk htw
          obtain ⟨gk1, rfl⟩ : ∃ q, gk = q + 1 := ⟨gk - 1, by have := HK.out.1; omega⟩
          clear hl ht htw hk hrd
          go_wp2_with fail
          go_region
          go_wp2
          · rename_i hq
            have hal : l.f0 = a := ad_eq2 ⟨by simpa using hq.1, by simpa using hq.2.1, by simpa using hq.2.2⟩
            have hv : mine st a = x + 1 := by
              have hpl : (place p.ls a).isSome = true := place_isSome.2 ⟨l, List.mem_of_getElem? HGET.out, hal⟩
              have := HD.out
              rw [if_pos hpl] at this
              unfold mine num
              rw [this]
              simp only [Option.map_some]
              have := HX.out
              omega
            have hx1 : wrap64 (x + 1) = x + 1 := by rw [HN.out]; have := HX.out; omega
            go_ret
            exact ⟨by rw [hv]; show Ending.returned (.int .i64 (wrap64 (x + 1))) = _; rw [hx1], below_then HB.out HB.out.size (below_drew1 HC.out)⟩
          · rename_i hq
            have hne : eqA l.f0 a = false := by
              cases e : eqA l.f0 a with
              | false => rfl
              | true =>
                have := eqA_iff.1 e
                rw [this] at hq
                simp at hq
            have HQ := Aside0.mk hne
            go_roundg gk1
            case measure => omega
            case rel => exact ⟨k + 1, by first | rw [HTW.out] | exact congrArg _ (by have := HT.out; omega), ⟨by have := HK.out.1; omega, fun j m hj hm => by
              rcases Nat.lt_or_ge j k with z | z
              · exact HK.out.2 j m z hm
              · obtain rfl : j = k := by omega
                rw [HGET.out] at hm
                obtain rfl := Option.some.inj hm
                exact HQ.out⟩, ⟨below_drew1 HC.out⟩⟩
        · have hpl : place p.ls a = none := place_none.2 (fun l hl e => by
            obtain ⟨j, hj⟩ := List.mem_iff_getElem?.1 hl
            have := HK.out.2 j l (by have := (List.getElem?_eq_some_iff.1 hj).1; omega) hj
            rw [eqA_iff.2 e] at this
            cases this)
          have HPL := Aside0.mk hpl
          obtain ⟨t, ht⟩ : ∃ t : Int, (k : Int) = t := ⟨_, rfl⟩
          have b2 : decide (t < (p.ls.length : Int)) = false := decide_eq_false (by omega)
          rw [ht]
          clear ht hk hpl
          go_wp2
          go_roundg gk0
          case measure => omega
          case rel => exact ⟨i + 1, by first | rw [HN.out] | exact congrArg _ (by have := HX.out; omega), ⟨by have := HI.out.1; omega, fun j m hj hm => by
            rcases Nat.lt_or_ge j i with z | z
            · exact HI.out.2 j m z hm
            · obtain rfl : j = i := by omega
              rw [HP.out] at hm
              obtain rfl := Option.some.inj hm
              exact HPL.out⟩, HC⟩
    · have hd : mineN st a = none := mine_none.2 (fun p hp l hl e => by
        obtain ⟨j, hj⟩ := List.mem_iff_getElem?.1 hp
        have := (List.getElem?_eq_some_iff.1 hj).1
        exact place_none.1 (HI.out.2 j p (by omega) hj) l hl e)
      have hv : mine st a = 0 := by unfold mine num; rw [hd]
      have HV := Aside0.mk hv
      obtain ⟨x, hx⟩ : ∃ x : Int, (i : Int) = x := ⟨_, rfl⟩
      have b1 : decide (x < (st.length : Int)) = false := decide_eq_false (by omega)
      rw [hx]
      clear hd hx hi hv
      go_wp2
      go_ret
      exact ⟨by rw [HV.out]; rfl, below_then HB.out HB.out.size HC.out⟩
end
end Go.Proofs.Ytefbcigccfkkgaa.WIf
namespace Go.Proofs.Ytefbcigccfkkgaa.WIf
open Go.RowKit Go.Maps Go.WideMaps Go.Proofs.Ytefbcigccfkkgaa.PBase Go.Proofs.YtefbcigccfkkgaaW.PrintWords Go.Proofs.YtefbcigccfkkgaaW.PrintLast Go.Proofs.YtefbcigccfkkgaaW.PrintMore Go.Proofs.Ytefbcigccfkkgaa.If
attribute [local go_sem] max2_int min2_int max_two min_two
theorem named_nn (st : St) (s : ByteArray) : 0 ≤ named st s := by
  unfold named num
  cases namedN st s with
  | none => exact Int.le_refl _
  | some i => simp only; omega
section
variable {w : World} {S : Nat → Prop} {db : Nat} {v1 v2 : Value} {ls : List Sl} {st : St}
theorem dname_calls (s : ByteArray) (hs : s.size ≤ maxLen) (W : World) : Calls Try.prog 52 #[.string s] W fun e w' => e = .returned (.bool (nameB s)) ∧ Below W.heap.size W w' := by
  obtain ⟨k, hk⟩ := (Pure.name_ev s hs).rounds
  exact Calls.mono (crosswayref14_Name.calls k s (nameB s) W hk) (fun _ _ h => ⟨h.1, h.2.below⟩)
set_option maxHeartbeats 1000000 in
set_option maxRecDepth 100000 in
theorem dadd_bad (h : Dem w S db v1 v2 ls st) (h8 : st.length ≤ 8) (s : ByteArray) (hs : s.size ≤ maxLen) (mac mtu : Int) (hn : nameB s = false ∨ named st s ≠ 0) :
    Calls Try.prog 32 #[.pointer (some ⟨db, 0, none⟩), .string s, .int .u64 mac, .int .i64 mtu] w fun e w' => e = .returned (.tuple #[.int .i64 0, .int .i64 130]) ∧ Below w.heap.size w w' := by
  have HM := Aside0.mk h
  have HN := Aside0.mk hn
  have hnm := dname_calls s hs
  have hnd := fun W (hW : Dem W S db v1 v2 ls st) => dnamed_calls hW h8 s
  have hge := named_nn st s
  clear h hn
  cases hb : nameB s with
  | false =>
    rw [hb] at hnm
    clear hnd hge
    go_enter Try.func32, Try.ntmps32
    go_wp2_with fail
    refine Calls.mono (hnm _) ?_
    rintro e w1 ⟨rfl, hb⟩
    have HB := Aside0.mk hb
    clear hb
    go_wp2
    go_ret2
    exact ⟨rfl, HB.out⟩
  | true =>
    rw [hb] at hnm
    have hne : named st s ≠ 0 := by
      rcases HN.out with q | q
      · rw [hb] at q; cases q
      · exact q
    obtain ⟨z, hz⟩ : ∃ z, named st s = z := ⟨_, rfl⟩
    rw [hz] at hnd hge hne
    have hz1 : decide (z > 0) = true := decide_eq_true (by omega)
    have hz2 : 0 < z := by omega
    clear hz hge hne
    go_enter Try.func32, Try.ntmps32
    go_wp2_with fail
    refine Calls.mono (hnm _) ?_
    rintro e w1 ⟨rfl, hb⟩
    have HB := Aside0.mk hb
    have HM1 := Aside0.mk (HM.out.below hb)
    clear hb
    go_wp2_with fail
    refine Calls.mono (hnd _ HM1.out) ?_
    rintro e w2 ⟨rfl, rfl⟩
    go_wp2
    go_ret2
    exact ⟨rfl, HB.out⟩
theorem tdm {mac : Int} (h0 : 0 ≤ mac) : Int.tdiv mac 1099511627776 = mac / 1099511627776 ∧ Int.tmod (mac / 1099511627776) 2 = mac / 1099511627776 % 2 := ⟨Int.tdiv_eq_ediv_of_nonneg h0, Int.tmod_eq_emod_of_nonneg (by omega)⟩
set_option maxHeartbeats 1000000 in
set_option maxRecDepth 100000 in
theorem dadd_arg (h : Dem w S db v1 v2 ls st) (h8 : st.length ≤ 8) (s : ByteArray) (hs : s.size ≤ maxLen) (mac mtu : Int) (hn : nameB s = true) (hm : named st s = 0) (h0 : 0 ≤ mac) (h1 : mac < 18446744073709551616) (hbad : addBad mac mtu = true) :
    Calls Try.prog 32 #[.pointer (some ⟨db, 0, none⟩), .string s, .int .u64 mac, .int .i64 mtu] w fun e w' => e = .returned (.tuple #[.int .i64 0, .int .i64 1]) ∧ Below w.heap.size w w' := by
  have HM := Aside0.mk h
  have HBAD := Aside0.mk hbad
  have hnm := dname_calls s hs
  rw [hn] at hnm
  have hnd := fun W (hW : Dem W S db v1 v2 ls st) => dnamed_calls hW h8 s
  rw [hm] at hnd
  obtain ⟨td, tm⟩ := tdm h0
  have hw1 : IntKind.u64.wrap (mac / 1099511627776) = mac / 1099511627776 := IntWalk.u64_in _ (by omega)
  have hw2 : IntKind.u64.wrap (mac / 1099511627776 % 2) = mac / 1099511627776 % 2 := IntWalk.u64_in _ (by omega)
  clear h hbad hm hn
  go_enter Try.func32, Try.ntmps32
  go_wp2_with fail
  refine Calls.mono (hnm _) ?_
  rintro e w1 ⟨rfl, hb⟩
  have HB := Aside0.mk hb
  have HM1 := Aside0.mk (HM.out.below hb)
  clear hb
  go_wp2_with fail
  refine Calls.mono (hnd _ HM1.out) ?_
  rintro e w2 ⟨rfl, rfl⟩
  by_cases c1 : mac = 0
  · subst c1
    go_wp2
    go_ret2
    exact ⟨rfl, HB.out⟩
  have c1b : (mac == 0) = false := by simpa using c1
  by_cases c2 : 281474976710656 ≤ mac
  · go_wp2
    go_ret2
    exact ⟨rfl, HB.out⟩
  by_cases c3 : mac / 1099511627776 % 2 = 1
  · have c3b : (mac / 1099511627776 % 2 == 1) = true := by rw [c3]; rfl
    go_wp2
    go_ret2
    exact ⟨rfl, HB.out⟩
  have c3b : (mac / 1099511627776 % 2 == 1) = false := by simpa using c3
  by_cases c4 : mtu < 68
  · go_wp2
    go_ret2
    exact ⟨rfl, HB.out⟩
  have c5 : 1500 < mtu := by
    have := HBAD.out
    unfold addBad at this
    simp only [Bool.or_eq_true, beq_iff_eq, decide_eq_true_eq] at this
    omega
  go_wp2
  go_ret2
  exact ⟨rfl, HB.out⟩
set_option maxHeartbeats 1000000 in
set_option maxRecDepth 100000 in
theorem dadd_full (h : Dem w S db v1 v2 ls st) (s : ByteArray) (hs : s.size ≤ maxLen) (mac mtu : Int) (hn : nameB s = true) (hm : named st s = 0) (h0 : 0 ≤ mac) (h1 : mac < 18446744073709551616) (hbad : addBad mac mtu = false) (h88 : st.length = 8) :
    Calls Try.prog 32 #[.pointer (some ⟨db, 0, none⟩), .string s, .int .u64 mac, .int .i64 mtu] w fun e w' => e = .returned (.tuple #[.int .i64 0, .int .i64 131]) ∧ Below w.heap.size w w' := by
  have h8 : st.length ≤ 8 := by omega
  have HM := Aside0.mk h
  have hnm := dname_calls s hs
  rw [hn] at hnm
  have hnd := fun W (hW : Dem W S db v1 v2 ls st) => dnamed_calls hW h8 s
  rw [hm] at hnd
  obtain ⟨td, tm⟩ := tdm h0
  have hw1 : IntKind.u64.wrap (mac / 1099511627776) = mac / 1099511627776 := IntWalk.u64_in _ (by omega)
  have hw2 : IntKind.u64.wrap (mac / 1099511627776 % 2) = mac / 1099511627776 % 2 := IntWalk.u64_in _ (by omega)
  obtain ⟨c1, c2, c3, c4, c5⟩ := addBad_not hbad
  have c1b : (mac == 0) = false := by simpa using c1
  have c3b : (mac / 1099511627776 % 2 == 1) = false := by simpa using c3
  obtain ⟨A, c, ev⟩ := h.rowP.slice
  rw [List.length_map] at ev
  obtain ⟨A2, c', ev2⟩ := h.rowL.slice
  have hlen := h.len
  rw [h.len] at ev2
  subst ev ev2
  have h8b : decide ((8 : Int) ≤ (st.length : Int)) = true := decide_eq_true (by omega)
  have h8c : (8 : Int) ≤ (st.length : Int) := by omega
  clear h hbad hm hn h88
  go_enter Try.func32, Try.ntmps32
  go_wp2_with fail
  refine Calls.mono (hnm _) ?_
  rintro e w1 ⟨rfl, hb⟩
  have HB := Aside0.mk hb
  have HM1 := Aside0.mk (HM.out.below hb)
  obtain ⟨x0, x1⟩ := MBlk.c2 HM1.out.blk
  clear hb
  go_wp2_with fail
  refine Calls.mono (hnd _ HM1.out) ?_
  rintro e w2 ⟨rfl, rfl⟩
  go_wp2
  go_ret2
  exact ⟨rfl, HB.out⟩
set_option maxHeartbeats 2000000 in
set_option maxRecDepth 100000 in
theorem dadd_done (h : Dem w S db v1 v2 ls st) (s : ByteArray) (hs : s.size ≤ maxLen) (mac mtu : Int) (hn : nameB s = true) (hm : named st s = 0) (h0 : 0 ≤ mac) (h1 : mac < 18446744073709551616) (hbad : addBad mac mtu = false) (h88 : st.length < 8) :
    Calls Try.prog 32 #[.pointer (some ⟨db, 0, none⟩), .string s, .int .u64 mac, .int .i64 mtu] w fun e w' => e = .returned (.tuple #[.int .i64 ((st.length : Int) + 1), .int .i64 0]) ∧ DStepped w w' S db (st ++ [⟨s, mac, mtu, false, []⟩]) := by
  have h8 : st.length ≤ 8 := by omega
  have HM := Aside0.mk h
  have hnm := dname_calls s hs
  rw [hn] at hnm
  have hnd := fun W (hW : Dem W S db v1 v2 ls st) => dnamed_calls hW h8 s
  rw [hm] at hnd
  obtain ⟨td, tm⟩ := tdm h0
  have hw1 : IntKind.u64.wrap (mac / 1099511627776) = mac / 1099511627776 := IntWalk.u64_in _ (by omega)
  have hw2 : IntKind.u64.wrap (mac / 1099511627776 % 2) = mac / 1099511627776 % 2 := IntWalk.u64_in _ (by omega)
  obtain ⟨c1, c2, c3, c4, c5⟩ := addBad_not hbad
  have c1b : (mac == 0) = false := by simpa using c1
  have c3b : (mac / 1099511627776 % 2 == 1) = false := by simpa using c3
  obtain ⟨A, c, ev⟩ := h.rowP.slice
  rw [List.length_map] at ev
  obtain ⟨A2, c', ev2⟩ := h.rowL.slice
  have hlen := h.len
  rw [h.len] at ev2
  subst ev ev2
  have h8b : decide ((8 : Int) ≤ (st.length : Int)) = false := decide_eq_false (by omega)
  have h8c : (st.length : Int) < 8 := by omega
  clear h hbad hm hn
  go_enter Try.func32, Try.ntmps32
  go_wp2_with fail
  refine Calls.mono (hnm _) ?_
  rintro e w1 ⟨rfl, hb⟩
  have HB := Aside0.mk hb
  have HM1 := Aside0.mk (HM.out.below hb)
  obtain ⟨x0, x1⟩ := MBlk.c2 HM1.out.blk
  obtain ⟨f0, f1⟩ := MBlk.f2 HM1.out.blk
  clear hb
  go_wp2_with fail
  refine Calls.mono (hnd _ HM1.out) ?_
  rintro e w1' ⟨rfl, rfl⟩
  have hdl := HM1.out.lt db HM1.out.its.1
  obtain ⟨ty1, ty2, _⟩ := HM1.out.types
  have HOWN := Aside0.mk (show (∀ k, (Value.slice A st.length c).ownBlock = some k → k ≠ db ∧ (Value.slice A2 st.length c').ownBlock ≠ some k) ∧ (∀ k, (Value.slice A2 st.length c').ownBlock = some k → k ≠ db) from by
    refine ⟨fun k hk => ⟨?_, fun e => ?_⟩, fun k hk => ?_⟩
    · obtain ⟨cs, hc⟩ := ty1 k hk
      exact typed_ne hc HM1.out.blk (by decide)
    · obtain ⟨cs, hc⟩ := ty1 k hk
      obtain ⟨cs', hc'⟩ := ty2 k e
      exact typed_ne hc hc' (by decide) rfl
    · obtain ⟨cs, hc⟩ := ty2 k hk
      exact typed_ne hc HM1.out.blk (by decide))
  clear ty1 ty2
  go_upto_region 9 with (first | ((with_reducible refine gate_builtin (b := .append) (xs := #[.tmp 51, .tmp 56]) rfl ?_); at_builtin; refine Kd.R_append k50 (w0 := w1) 0 rfl (.tmp 51) (.tmp 56) 72 50 (.agg #[.string ⟨#[]⟩, .int .u64 0, .int .i64 0, .bool false]) 40 rfl Try.underlying72 (by kernel_rfl) rfl (by decide) (by decide) (.slice A st.length c) (st.map pOf) (pOf ⟨s, mac, mtu, false, []⟩) _ (fun _ => True) (fun _ => False) rfl rfl (k50_mkM _ _ _ _) (fun _ h => h.elim) (fun _ _ => trivial) (RowK.all plP HM1.out.rowP) (Below.refl 0 w1) (Nat.zero_le _) (by rw [List.length_map]; omega) ?_; intro u1 w2 hR hb0 hg hat; have hrow := RowK.of plP hR; obtain ⟨g, cg, eu⟩ := hrow.shape (by simp); rw [List.length_append, List.length_map] at eu; subst eu; have HR := Aside0.mk hrow; have HG := Aside0.mk hg; have HAT := Aside0.mk hat; have hblk := (hg.block db hdl (fun e => (HOWN.out.1 db e.symm).1 rfl)).trans HM1.out.blk; have BK := Aside0.mk hblk; obtain ⟨y0, y1⟩ := MBlk.c2 hblk; obtain ⟨g0, g1⟩ := MBlk.f2 hblk; clear hR hb0 hg hat hrow hblk x0 x1 f0 f1) | fail)
  obtain ⟨u, hu⟩ : ∃ u, Value.slice (some ⟨g, 0, none⟩) (st.length + 1) cg = u := ⟨_, rfl⟩
  obtain ⟨w3, hw3⟩ : ∃ w3, w2.setCell ⟨db, 0, none⟩ (.slice (some ⟨g, 0, none⟩) (st.length + 1) cg) = w3 := ⟨_, rfl⟩
  have hblk3 : w3.heap[db]? = some (.cells #[.slice (some ⟨g, 0, none⟩) (st.length + 1) cg, .slice A2 st.length c'] 75 (0, 0)) := by rw [← hw3]; exact blk_put BK.out 0 _ rfl
  have far3 : ∀ k, k ≠ db → w3.heap[k]? = w2.heap[k]? := fun k hk => by rw [← hw3]; exact Below.heap_setCell w2 _ _ k hk
  have hs3 : w3.heap.size = w2.heap.size := by rw [← hw3]; simp [World.setCell]
  have hfr3 : ∀ k, k < w1.heap.size → k ≠ db → (Value.slice A st.length c).ownBlock ≠ some k → w3.heap[k]? = w1.heap[k]? := fun k h1 h2 h3 => (far3 k h2).trans (HG.out.block k h1 (fun e => h3 e.symm))
  have hos3 : w3.os = w1.os ∧ w3.tape = w1.tape ∧ w3.output = w1.output := by rw [← hw3]; exact ⟨HG.out.os, HG.out.tape, HG.out.output⟩
  have hsz3 : w1.heap.size ≤ w3.heap.size := by rw [hs3]; exact HG.out.size
  have hgdb : g ≠ db := by
    obtain ⟨cs, hc⟩ := HR.out.typed g rfl
    exact typed_ne hc BK.out (by decide)
  have hP3 : RowK k50 50 w3 (.slice (some ⟨g, 0, none⟩) (st.length + 1) cg) (st.map pOf ++ [pOf ⟨s, mac, mtu, false, []⟩]) := RowK.keep HR.out (fun k hk => far3 k (by obtain rfl : g = k := Option.some.inj hk; exact hgdb))
  have hL3 : RowK kSl 31 w3 (.slice A2 st.length c') ls := RowK.keep HM1.out.rowL (fun k hk => hfr3 k (HM1.out.rowL.lt k hk) (HOWN.out.2 k hk) (fun e => (HOWN.out.1 k e).2 hk))
  rw [hw3]
  have HP3 := Aside0.mk hP3
  have HL3 := Aside0.mk hL3
  have HF3 := Aside0.mk (show (∀ k, k < w1.heap.size → k ≠ db → (Value.slice A st.length c).ownBlock ≠ some k → w3.heap[k]? = w1.heap[k]?) ∧ (w3.os = w1.os ∧ w3.tape = w1.tape ∧ w3.output = w1.output) ∧ w1.heap.size ≤ w3.heap.size from ⟨hfr3, hos3, hsz3⟩)
  have HB3 := Aside0.mk hblk3
  obtain ⟨x0, x1⟩ := MBlk.c2 hblk3
  obtain ⟨f0, f1⟩ := MBlk.f2 hblk3
  have hdl3 : db < w3.heap.size := by omega
  have hat3 : (some g = (Value.slice A st.length c).ownBlock ∨ w1.heap.size ≤ g) := by
    rcases HAT.out with q | ⟨b, q, hq⟩
    · exact .inl q
    · have h2 : g = b := Option.some.inj q
      exact .inr (by omega)
  have HAT3 := Aside0.mk hat3
  clear hu u hw3 hblk3 far3 hs3 hfr3 hos3 hsz3 hP3 hL3 y0 y1 g0 g1 HR HG HAT BK hat3
  go_upto_region 10 with (first | ((with_reducible refine gate_builtin (b := .append) (xs := #[.tmp 64, .tmp 65]) rfl ?_); at_builtin; refine Kd.R_append kSl (w0 := w3) 0 rfl (.tmp 64) (.tmp 65) 73 31 (.slice none 0 0) 24 rfl Try.underlying73 (by kernel_rfl) rfl (by decide) (by decide) (.slice A2 st.length c') ls ⟨none, 0, 0⟩ [sv ⟨none, 0, 0⟩] (fun _ => True) (fun _ => False) rfl rfl rfl (fun _ h => h.elim) (fun _ _ => trivial) (RowK.all plS HL3.out) (Below.refl 0 w3) (Nat.zero_le _) (by rw [hlen]; omega) ?_; intro u2 w4 hR hb0 hg hat; have hrow := RowK.of plS hR; obtain ⟨g2, cg2, eu⟩ := hrow.shape (by simp); rw [List.length_append, hlen] at eu; subst eu; have HR := Aside0.mk hrow; have HG := Aside0.mk hg; have HAT := Aside0.mk hat; have hblk := (hg.block db hdl3 (fun e => HOWN.out.2 db e.symm rfl)).trans HB3.out; have BK := Aside0.mk hblk; obtain ⟨y0, y1⟩ := MBlk.c2 hblk; obtain ⟨g0, g1⟩ := MBlk.f2 hblk; clear hR hb0 hg hat hrow hblk x0 x1 f0 f1) | fail)
  obtain ⟨w5, hw5⟩ : ∃ w5, w4.setCell ⟨db, 1, none⟩ (.slice (some ⟨g2, 0, none⟩) (st.length + 1) cg2) = w5 := ⟨_, rfl⟩
  have hblk5 : w5.heap[db]? = some (.cells #[.slice (some ⟨g, 0, none⟩) (st.length + 1) cg, .slice (some ⟨g2, 0, none⟩) (st.length + 1) cg2] 75 (0, 0)) := by rw [← hw5]; exact blk_put BK.out 1 _ rfl
  have far5 : ∀ k, k ≠ db → w5.heap[k]? = w4.heap[k]? := fun k hk => by rw [← hw5]; exact Below.heap_setCell w4 _ _ k hk
  have hs5 : w5.heap.size = w4.heap.size := by rw [← hw5]; simp [World.setCell]
  have hos5 : w5.os = w1.os ∧ w5.tape = w1.tape ∧ w5.output = w1.output := by rw [← hw5]; exact ⟨HG.out.os.trans HF3.out.2.1.1, HG.out.tape.trans HF3.out.2.1.2.1, HG.out.output.trans HF3.out.2.1.2.2⟩
  have hsz5 : w1.heap.size ≤ w5.heap.size := by have := HG.out.size; have := HF3.out.2.2; omega
  have hfr5 : ∀ k, k < w1.heap.size → k ≠ db → (Value.slice A st.length c).ownBlock ≠ some k → (Value.slice A2 st.length c').ownBlock ≠ some k → w5.heap[k]? = w1.heap[k]? := fun k h1 h2 h3 h4 => (far5 k h2).trans ((HG.out.block k (by have := HF3.out.2.2; omega) (fun e => h4 e.symm)).trans (HF3.out.1 k h1 h2 h3))
  have hP5 : RowK k50 50 w5 (.slice (some ⟨g, 0, none⟩) (st.length + 1) cg) (st.map pOf ++ [pOf ⟨s, mac, mtu, false, []⟩]) := RowK.keep HP3.out (fun k hk => by
    obtain ⟨cs, hc⟩ := HP3.out.typed k hk
    have hk1 : k ≠ db := typed_ne hc HB3.out (by decide)
    have hk2 : (Value.slice A2 st.length c').ownBlock ≠ some k := fun e => by
      obtain ⟨cs', hc'⟩ := HL3.out.typed k e
      exact typed_ne hc hc' (by decide) rfl
    exact (far5 k hk1).trans (HG.out.block k (HP3.out.lt k hk) (fun e => hk2 e.symm)))
  have hL5 : RowK kSl 31 w5 (.slice (some ⟨g2, 0, none⟩) (st.length + 1) cg2) (ls ++ [⟨none, 0, 0⟩]) := RowK.keep HR.out (fun k hk => by
    obtain ⟨cs, hc⟩ := HR.out.typed k hk
    exact far5 k (typed_ne hc BK.out (by decide)))
  have hD5 := dem_added (p := ⟨s, mac, mtu, false, []⟩) HM1.out rfl hblk5 hP5 hL5 hsz5 hfr5
  rw [hw5]
  have HD5 := Aside0.mk hD5
  have HF5 := Aside0.mk (And.intro hos5 (And.intro hsz5 hfr5))
  have hat5 : (∀ k, (Value.slice (some ⟨g2, 0, none⟩) (st.length + 1) cg2).ownBlock = some k → (Value.slice A2 st.length c').ownBlock = some k ∨ w1.heap.size ≤ k) := fun k hk => by
    rcases HAT.out with q | ⟨b, q, hq⟩
    · exact .inl (q.symm.trans hk)
    · have h2 : g2 = b := Option.some.inj q
      have h3 : g2 = k := Option.some.inj hk
      exact .inr (by have := HF3.out.2.2; omega)
  have HAT5 := Aside0.mk hat5
  obtain ⟨x0, x1⟩ := MBlk.c2 hblk5
  clear hw5 hblk5 far5 hs5 hos5 hsz5 hfr5 hP5 hL5 hD5 hat5 y0 y1 g0 g1 HR HG HAT BK HL3 HP3 HB3
  have hcast : ((st.length + 1 : Nat) : Int) = (st.length : Int) + 1 := by omega
  go_wp2
  go_ret2
  refine ⟨by first | rfl | rw [hcast], _, _, _, _, HD5.out, ?_, ?_⟩
  · intro k hk
    have hsz := HB.out.size
    rcases hk with q | q | q
    · exact .inl q
    · have h3 : g = k := Option.some.inj q
      rcases HAT3.out with e | e
      · exact .inl (HM1.out.its.2.1 k (by rw [← e, h3]))
      · exact .inr (by omega)
    · rcases HAT5.out k q with e | e
      · exact .inl (HM1.out.its.2.2.1 k e)
      · exact .inr (by omega)
  · have hf1 : Fr S w w1 := Fr.of_below HB.out
    exact ⟨HF5.out.1.1.trans hf1.os, HF5.out.1.2.1.trans hf1.tape, HF5.out.1.2.2.trans hf1.output, Nat.le_trans hf1.size HF5.out.2.1, fun k hk hn => (HF5.out.2.2 k (Nat.lt_of_lt_of_le hk hf1.size) (fun e => hn (e ▸ HM1.out.its.1)) (fun e => hn (HM1.out.its.2.1 k e)) (fun e => hn (HM1.out.its.2.2.1 k e))).trans (hf1.block k hk hn)⟩
theorem dadd_calls (h : Dem w S db v1 v2 ls st) (h8 : st.length ≤ 8) (s : ByteArray) (hs : s.size ≤ maxLen) (mac mtu : Int) (h0 : 0 ≤ mac) (h1 : mac < 18446744073709551616) :
    Calls Try.prog 32 #[.pointer (some ⟨db, 0, none⟩), .string s, .int .u64 mac, .int .i64 mtu] w fun e w' => e = .returned (.tuple #[.int .i64 (add st s mac mtu).2.1, .int .i64 (add st s mac mtu).2.2]) ∧ DStepped w w' S db (add st s mac mtu).1 := by
  by_cases hno : nameB s = false ∨ named st s ≠ 0
  · have e : add st s mac mtu = (st, 0, 130) := by unfold add; rw [if_pos hno]
    rw [e]
    exact Calls.mono (dadd_bad h h8 s hs mac mtu hno) (fun _ _ q => ⟨q.1, DStepped.same h q.2⟩)
  · have hn : nameB s = true := by
      cases e : nameB s with
      | true => rfl
      | false => exact absurd (.inl e) hno
    have hm : named st s = 0 := Decidable.byContradiction fun q => hno (.inr q)
    cases hbad : addBad mac mtu with
    | true =>
      have e : add st s mac mtu = (st, 0, 1) := by unfold add; rw [if_neg hno, if_pos hbad]
      rw [e]
      exact Calls.mono (dadd_arg h h8 s hs mac mtu hn hm h0 h1 hbad) (fun _ _ q => ⟨q.1, DStepped.same h q.2⟩)
    | false =>
      by_cases h8b : st.length = 8
      · have e : add st s mac mtu = (st, 0, 131) := by unfold add; rw [if_neg hno, if_neg (by rw [hbad]; decide), if_pos h8b]
        rw [e]
        exact Calls.mono (dadd_full h s hs mac mtu hn hm h0 h1 hbad h8b) (fun _ _ q => ⟨q.1, DStepped.same h q.2⟩)
      · have e : add st s mac mtu = (st ++ [⟨s, mac, mtu, false, []⟩], (st.length : Int) + 1, 0) := by unfold add; rw [if_neg hno, if_neg (by rw [hbad]; decide), if_neg h8b]
        rw [e]
        exact dadd_done h s hs mac mtu hn hm h0 h1 hbad (by omega)
end
end Go.Proofs.Ytefbcigccfkkgaa.WIf
namespace Go.Proofs.Ytefbcigccfkkgaa.WIf
open Go.RowKit Go.Maps Go.WideMaps Go.Proofs.Ytefbcigccfkkgaa.PBase Go.Proofs.YtefbcigccfkkgaaW.PrintWords Go.Proofs.YtefbcigccfkkgaaW.PrintLast Go.Proofs.YtefbcigccfkkgaaW.PrintMore Go.Proofs.Ytefbcigccfkkgaa.If
attribute [local go_sem] max2_int min2_int max_two min_two
def AdOk (a : Ad) : Prop := (0 ≤ a.f1 ∧ a.f1 ≤ 18446744073709551615) ∧ (0 ≤ a.f2 ∧ a.f2 ≤ 18446744073709551615)
theorem dclass_calls (a : Ad) (ha : AdOk a) (W : World) : Calls Try.prog 54 #[.agg (adA a)] W fun e w' => e = .returned (.int .i64 (Pure.cls a.f0 a.f1 a.f2)) ∧ Below W.heap.size W w' := by
  obtain ⟨k, hk⟩ := (Pure.rclass_ev a.f0 a.f1 a.f2 ha.1 ha.2).rounds
  exact crosswayref03_Class.calls k a.f0 a.f1 a.f2 _ W hk
theorem dwidth_calls (a : Ad) (W : World) : Calls Try.prog 55 #[.agg (adA a)] W fun e w' => e = .returned (.int .i64 ((Pure.wd a.f0 : Nat) : Int)) ∧ Below W.heap.size W w' :=
  crosswayref04_Width.calls a.f0 a.f1 a.f2 _ W (Pure.width_eq _ _ _)
theorem mine_nn (st : St) (a : Ad) : 0 ≤ mine st a := by
  unfold mine num
  cases mineN st a with
  | none => exact Int.le_refl _
  | some i => simp only; omega
section
variable {w : World} {S : Nat → Prop} {db : Nat} {v1 v2 : Value} {ls : List Sl} {st : St}
set_option maxHeartbeats 1000000 in
set_option maxRecDepth 100000 in
theorem dput_none (h : Dem w S db v1 v2 ls st) (h8 : st.length ≤ 8) (n : Int) (a : Ad) (bits : Int) (hn : at? st n = none) :
    Calls Try.prog 35 #[.pointer (some ⟨db, 0, none⟩), .int .i64 n, .agg (adA a), .int .i64 bits] w fun e w' => e = .returned (.int .i64 132) ∧ Below w.heap.size w w' := by
  have HB := Aside0.mk (Below.refl w.heap.size w)
  go_enter Try.func35, Try.ntmps35
  go_wp2_with (first | ((with_reducible refine gate_dst (N := 6) rfl ?_); refine sh_E 6 25 (adA a) ?_; intro g hg w1 hbox hb; replace HB := sh_S HB hb; have HM := Aside0.mk (h.below hb); clear hbox hb hg) | fail)
  have hth := there_calls HM.out h8 n
  rw [hn] at hth
  refine Calls.mono hth ?_
  rintro e w' ⟨rfl, rfl⟩
  go_wp2
  go_ret
  exact ⟨rfl, HB.out⟩
set_option maxHeartbeats 2000000 in
set_option maxRecDepth 100000 in
theorem dput_bad (h : Dem w S db v1 v2 ls st) (h8 : st.length ≤ 8) (hls : ∀ p ∈ st, p.ls.length ≤ 8) (n : Int) (a : Ad) (ha : AdOk a) (bits : Int) {i : Nat} (hn : at? st n = some i) (hbad : putBad st i a bits = true) :
    Calls Try.prog 35 #[.pointer (some ⟨db, 0, none⟩), .int .i64 n, .agg (adA a), .int .i64 bits] w fun e w' => e = .returned (.int .i64 133) ∧ Below w.heap.size w w' := by
  have HB := Aside0.mk (Below.refl w.heap.size w)
  obtain ⟨p, pb, c, hp, hv, hS, hcell⟩ := datP h hn
  have p2 := (hcell (j := 2) (u := .int .i64 p.mtu) rfl).1
  obtain ⟨x0, x1⟩ := MBlk.c2 h.blk
  rw [hv] at x0
  have HBAD := Aside0.mk (show mayB a bits = false ∨ mine st a ≠ 0 ∨ (a.f0 = true ∧ p.mtu < 1280) by
    unfold putBad at hbad
    rw [hp] at hbad
    simpa [or_assoc] using hbad)
  have HMAY := Aside0.mk (Pure.may_iff a bits)
  have hcv := Aside0.mk (fun q => Pure.cls_valid (t := a.f0) (h := a.f1) (l := a.f2) q)
  obtain ⟨hi, hni⟩ := at_lt hn
  obtain ⟨y, hy⟩ : ∃ y : Int, (i : Int) = y := ⟨_, rfl⟩
  have hyi : y.toNat = i := by omega
  have hw : wrap64 (n - 1) = y := by unfold wrap64; omega
  have z1 : (0 ≤ y) = True := eq_true (by omega)
  have q1 : (y < (st.length : Int)) = True := eq_true (by omega)
  have hmine := fun W (hW : Dem W S db v1 v2 ls st) => dmine_calls hW h8 hls a
  have hge := mine_nn st a
  have hcls := dclass_calls a ha
  have hwid := dwidth_calls a
  have hth := fun W (hW : Dem W S db v1 v2 ls st) => there_calls hW h8 n
  rw [hn] at hth
  obtain ⟨q, hq⟩ : ∃ q, Pure.cls a.f0 a.f1 a.f2 = q := ⟨_, rfl⟩
  rw [hq] at hcls HMAY hcv
  obtain ⟨wd, hwd⟩ : ∃ wd : Int, ((Pure.wd a.f0 : Nat) : Int) = wd := ⟨_, rfl⟩
  rw [hwd] at hwid HMAY
  obtain ⟨z, hz⟩ : ∃ z, mine st a = z := ⟨_, rfl⟩
  rw [hz] at hmine hge HBAD
  clear hbad hcell hni hy hi hq hwd hz
  go_enter Try.func35, Try.ntmps35
  go_wp2_with (first | ((with_reducible refine gate_dst (N := 6) rfl ?_); refine sh_E 6 25 (adA a) ?_; intro g hg w1 hbox hb; replace HB := sh_S HB hb; have BK := Aside0.mk hbox; obtain ⟨c0, c1, c2⟩ := MBlk.c3 hbox; replace p2 := pw_cell_below hb p2; replace x0 := pw_cell_below hb x0; have HM := Aside0.mk (h.below hb); clear hbox hb hg) | fail)
  refine Calls.mono (hth _ HM.out) ?_
  rintro e w' ⟨rfl, rfl⟩
  go_wp2_with fail
  refine Calls.mono (hcls _) ?_
  rintro e w2 ⟨rfl, hb⟩
  have HB2 := Aside0.mk (below_step HB.out hb)
  have HM2 := Aside0.mk (HM.out.below hb)
  replace c0 := pw_cell_below hb c0
  replace c1 := pw_cell_below hb c1
  replace c2 := pw_cell_below hb c2
  replace p2 := pw_cell_below hb p2
  replace x0 := pw_cell_below hb x0
  clear hb
  by_cases hc : q = 2 ∨ q = 5
  · have hrest : bits < 1 ∨ (¬ bits < 1 ∧ wd < bits) ∨ (¬ bits < 1 ∧ ¬ wd < bits ∧ 0 < z) ∨ (¬ bits < 1 ∧ ¬ wd < bits ∧ z = 0 ∧ a.f0 = true ∧ p.mtu < 1280) := by
      by_cases b1 : bits < 1
      · exact .inl b1
      · by_cases b2 : wd < bits
        · exact .inr (.inl ⟨b1, b2⟩)
        · have hm : mayB a bits = true := HMAY.out.2 ⟨hc, hcv.out hc, by omega, by omega⟩
          by_cases b3 : 0 < z
          · exact .inr (.inr (.inl ⟨b1, b2, b3⟩))
          · rcases HBAD.out with e | e | e
            · rw [hm] at e; cases e
            · exact absurd (by omega) e
            · exact .inr (.inr (.inr ⟨b1, b2, by omega, e⟩))
    rcases hrest with b1 | ⟨b1, b2⟩ | ⟨b1, b2, b3⟩ | ⟨b1, b2, b3, b4, b5⟩
    · clear hge
      rcases hc with rfl | rfl
      · go_wp2
        go_ret
        exact ⟨rfl, HB2.out⟩
      · go_wp2
        go_ret
        exact ⟨rfl, HB2.out⟩
    · clear hge
      rcases hc with rfl | rfl
      all_goals (
        go_wp2_with fail
        refine Calls.mono (hwid _) ?_
        rintro e w3 ⟨rfl, hb⟩
        have HB3 := Aside0.mk (below_step HB2.out hb)
        clear hb
        go_wp2
        go_ret
        exact ⟨rfl, HB3.out⟩)
    · clear hge
      rcases hc with rfl | rfl
      all_goals (
        go_wp2_with fail
        refine Calls.mono (hwid _) ?_
        rintro e w3 ⟨rfl, hb⟩
        have HB3 := Aside0.mk (below_step HB2.out hb)
        have HM3 := Aside0.mk (HM2.out.below hb)
        replace c0 := pw_cell_below hb c0
        replace c1 := pw_cell_below hb c1
        replace c2 := pw_cell_below hb c2
        clear hb
        go_wp2_with fail
        refine Calls.mono (hmine _ HM3.out) ?_
        rintro e w4 ⟨rfl, hb⟩
        have HB4 := Aside0.mk (below_step HB3.out hb)
        clear hb
        go_wp2
        go_ret
        exact ⟨rfl, HB4.out⟩)
    · subst b3
      clear hge
      have HB4' := Aside0.mk (And.intro b4 b5)
      clear b4 b5
      rcases hc with rfl | rfl
      all_goals (
        go_wp2_with fail
        refine Calls.mono (hwid _) ?_
        rintro e w3 ⟨rfl, hb⟩
        have HB3 := Aside0.mk (below_step HB2.out hb)
        have HM3 := Aside0.mk (HM2.out.below hb)
        replace c0 := pw_cell_below hb c0
        replace c1 := pw_cell_below hb c1
        replace c2 := pw_cell_below hb c2
        replace p2 := pw_cell_below hb p2
        replace x0 := pw_cell_below hb x0
        clear hb
        go_wp2_with fail
        refine Calls.mono (hmine _ HM3.out) ?_
        rintro e w4 ⟨rfl, hb⟩
        have HB4 := Aside0.mk (below_step HB3.out hb)
        replace c0 := pw_cell_below hb c0
        replace p2 := pw_cell_below hb p2
        replace x0 := pw_cell_below hb x0
        clear hb
        have b4 := HB4'.out.1
        have b5 := HB4'.out.2
        rw [b4] at c0
        go_wp2
        go_ret
        exact ⟨rfl, HB4.out⟩)
  · have hqa : (q != 2) = true := by simpa using fun e => hc (.inl e)
    have hqb : (q != 5) = true := by simpa using fun e => hc (.inr e)
    clear hge hc
    go_wp2
    go_ret
    exact ⟨rfl, HB2.out⟩
set_option maxHeartbeats 2000000 in
set_option maxRecDepth 100000 in
theorem dput_full (h : Dem w S db v1 v2 ls st) (h8 : st.length ≤ 8) (hls : ∀ p ∈ st, p.ls.length ≤ 8) (n : Int) (a : Ad) (ha : AdOk a) (bits : Int) {i : Nat} (hn : at? st n = some i) (hbad : putBad st i a bits = false) {p : Pt} (hp : st[i]? = some p) (hfull : p.ls.length = 8) :
    Calls Try.prog 35 #[.pointer (some ⟨db, 0, none⟩), .int .i64 n, .agg (adA a), .int .i64 bits] w fun e w' => e = .returned (.int .i64 131) ∧ Below w.heap.size w w' := by
  have HB := Aside0.mk (Below.refl w.heap.size w)
  obtain ⟨p', pb, c, hp', hv, hS, hcell⟩ := datP h hn
  obtain rfl : p = p' := Option.some.inj (hp.symm.trans hp')
  have p2 := (hcell (j := 2) (u := .int .i64 p.mtu) rfl).1
  obtain ⟨x0, x1⟩ := MBlk.c2 h.blk
  rw [hv] at x0
  obtain ⟨hm, h0, hsix⟩ := putBad_not hp hbad
  have HSX := Aside0.mk hsix
  obtain ⟨hc25, hva, hb1, hb2⟩ := (Pure.may_iff a bits).1 hm
  obtain ⟨hi, hni⟩ := at_lt hn
  obtain ⟨yl, lb, cl, hyl, hvl, hSl, lcell, lfree⟩ := datL h hi
  rw [hvl] at x1
  obtain ⟨A, cA, el⟩ := (h.like i p yl hp hyl).slice
  obtain ⟨y, hy⟩ : ∃ y : Int, (i : Int) = y := ⟨_, rfl⟩
  have hyi : y.toNat = i := by omega
  have hw : wrap64 (n - 1) = y := by unfold wrap64; omega
  have z1 : (0 ≤ y) = True := eq_true (by omega)
  have q1 : (y < (st.length : Int)) = True := eq_true (by omega)
  have hmine := fun W (hW : Dem W S db v1 v2 ls st) => dmine_calls hW h8 hls a
  rw [h0] at hmine
  have hcls := dclass_calls a ha
  have hwid := dwidth_calls a
  have hth := fun W (hW : Dem W S db v1 v2 ls st) => there_calls hW h8 n
  rw [hn] at hth
  obtain ⟨q, hq⟩ : ∃ q, Pure.cls a.f0 a.f1 a.f2 = q := ⟨_, rfl⟩
  rw [hq] at hcls hc25
  obtain ⟨wd, hwd⟩ : ∃ wd : Int, ((Pure.wd a.f0 : Nat) : Int) = wd := ⟨_, rfl⟩
  rw [hwd] at hwid hb2
  have hb1' : ¬ bits < 1 := by omega
  have hb2' : ¬ wd < bits := by omega
  rw [el] at lcell
  have hfl : decide ((8 : Int) ≤ (p.ls.length : Int)) = true := decide_eq_true (by omega)
  have hfl2 : (8 : Int) ≤ (p.ls.length : Int) := by omega
  clear hbad hcell hni hy hi hq hwd hm hva hsix hb1 hb2 hp' h0 hfull
  go_enter Try.func35, Try.ntmps35
  go_wp2_with (first | ((with_reducible refine gate_dst (N := 6) rfl ?_); refine sh_E 6 25 (adA a) ?_; intro g hg w1 hbox hb; replace HB := sh_S HB hb; have BK := Aside0.mk hbox; obtain ⟨c0, c1, c2⟩ := MBlk.c3 hbox; replace p2 := pw_cell_below hb p2; replace x0 := pw_cell_below hb x0; replace x1 := pw_cell_below hb x1; replace lcell := pw_cell_below hb lcell; have HM := Aside0.mk (h.below hb); clear hbox hb hg) | fail)
  refine Calls.mono (hth _ HM.out) ?_
  rintro e w' ⟨rfl, rfl⟩
  go_wp2_with fail
  refine Calls.mono (hcls _) ?_
  rintro e w2 ⟨rfl, hb⟩
  have HB2 := Aside0.mk (below_step HB.out hb)
  have HM2 := Aside0.mk (HM.out.below hb)
  have BK2 := Aside0.mk (blk_below BK.out hb)
  replace c0 := pw_cell_below hb c0
  replace c1 := pw_cell_below hb c1
  replace c2 := pw_cell_below hb c2
  replace p2 := pw_cell_below hb p2
  replace x0 := pw_cell_below hb x0
  replace x1 := pw_cell_below hb x1
  replace lcell := pw_cell_below hb lcell
  clear hb
  have hsix2 : a.f0 = false ∨ (a.f0 = true ∧ decide (p.mtu < 1280) = false) := by
    cases hs : a.f0 with
    | false => exact .inl rfl
    | true => exact .inr ⟨rfl, decide_eq_false (by have := HSX.out hs; omega)⟩
  have HSX2 := Aside0.mk hsix2
  clear hsix2
  rcases hc25 with rfl | rfl
  all_goals (
    go_wp2_with fail
    refine Calls.mono (hwid _) ?_
    rintro e w3 ⟨rfl, hb⟩
    have HB3 := Aside0.mk (below_step HB2.out hb)
    have HM3 := Aside0.mk (HM2.out.below hb)
    have BK3 := Aside0.mk (blk_below BK2.out hb)
    replace c0 := pw_cell_below hb c0
    replace c1 := pw_cell_below hb c1
    replace c2 := pw_cell_below hb c2
    replace p2 := pw_cell_below hb p2
    replace x0 := pw_cell_below hb x0
    replace x1 := pw_cell_below hb x1
    replace lcell := pw_cell_below hb lcell
    clear hb
    go_wp2_with fail
    refine Calls.mono (hmine _ HM3.out) ?_
    rintro e w4 ⟨rfl, hb⟩
    have HB4 := Aside0.mk (below_step HB3.out hb)
    have HM4 := Aside0.mk (HM3.out.below hb)
    have BK4 := Aside0.mk (blk_below BK3.out hb)
    replace c0 := pw_cell_below hb c0
    replace c1 := pw_cell_below hb c1
    replace c2 := pw_cell_below hb c2
    replace p2 := pw_cell_below hb p2
    replace x0 := pw_cell_below hb x0
    replace x1 := pw_cell_below hb x1
    replace lcell := pw_cell_below hb lcell
    clear hb
    have C0 := Aside0.mk c0
    have hs2 := HSX2.out
    rcases hs2 with hs | ⟨hs, hmt⟩
    all_goals (
      rw [hs] at c0
      go_wp2
      go_ret
      exact ⟨rfl, HB4.out⟩))
theorem own_new {W : World} {v : Value} (h : v.ownBlock = (Value.slice none 0 0).ownBlock ∨ ∃ b, v.ownBlock = some b ∧ W.heap.size ≤ b) : ∀ k, v.ownBlock = some k → W.heap.size ≤ k := fun k hk => by
  rcases h with q | ⟨b, q, hb⟩
  · rw [q] at hk; simp [Value.ownBlock] at hk
  · rw [q] at hk
    have := Option.some.inj hk
    omega
theorem dput_fin {w0 w4 w5 w6 : World} (hb : Below w0.heap.size w0 w4) (h : Dem w4 S db v1 v2 ls st) {lb n c i : Nat} (hv : v2 = .slice (some ⟨lb, 0, none⟩) n c) {p : Pt} {x : Sl} (hp : st[i]? = some p) (hx : ls[i]? = some x) (hb5 : Below w4.heap.size w4 w5) {A : Option Addr} {cl gg cap : Nat}
    {inner : List Value} {ok : Nat → Prop} (hr : Reps (k34.M w5 0 ok) k34.sz p.ls inner) {a : Ad} {bits : Int} (b : Bool) (hb0 : a.f0 = b) (hown : w6.ownsRow 0 34 4 (.slice (some ⟨gg, 0, none⟩) (p.ls.length + 1) cap) (p.ls.length + 1) (inner ++ [.bool b, .int .u64 a.f1, .int .u64 a.f2, .int .i64 bits]))
    {o : Obj} (hg : (w5.alloc o).drew.grownBy w6 (Value.slice A p.ls.length cl).ownBlock) (hnew : ∀ k, (Value.slice A p.ls.length cl).ownBlock = some k → w4.heap.size ≤ k) (hat : (Value.slice A p.ls.length cl).ownBlock = some gg ∨ gg = w5.heap.size + 1) :
    DStepped w0 (w6.setCell ⟨lb, i, none⟩ (.slice (some ⟨gg, 0, none⟩) (p.ls.length + 1) cap)) S db (st.modify i fun p => { p with ls := p.ls ++ [⟨a, bits⟩] }) := by
  subst hb0
  have hvo : v2.ownBlock = some lb := by rw [hv]; rfl
  obtain ⟨cp, hcp⟩ := h.rowL.typed lb hvo
  have hll := h.rowL.lt lb hvo
  have h45 := hb5.size
  have hb2 := hb.size
  have hF : ∀ k, k < w4.heap.size → w6.heap[k]? = w4.heap[k]? := fun k h1 => ((hg.block k (by show k < (w5.heap.push _).size; rw [Array.size_push]; omega) (fun e => by have := hnew k e.symm; omega)).trans ((World.grownBy_alloc w5 _ none).block k (by omega) (by simp))).trans (hb5.block k h1)
  have hsz : w5.heap.size ≤ w6.heap.size := by
    have h1 : (w5.heap.push o).size ≤ w6.heap.size := hg.size
    rw [Array.size_push] at h1
    omega
  have hgg : w4.heap.size ≤ gg := by
    rcases hat with q | q
    · exact hnew gg q
    · omega
  have hfar : ∀ k, k ≠ lb → (w6.setCell ⟨lb, i, none⟩ (.slice (some ⟨gg, 0, none⟩) (p.ls.length + 1) cap)).heap[k]? = w6.heap[k]? := fun k hk => Below.heap_setCell w6 _ _ k hk
  have hss : (w6.setCell ⟨lb, i, none⟩ (.slice (some ⟨gg, 0, none⟩) (p.ls.length + 1) cap)).heap.size = w6.heap.size := by simp [World.setCell]
  have hRL : RL w6 (.slice (some ⟨gg, 0, none⟩) (p.ls.length + 1) cap) (p.ls ++ [⟨a, bits⟩]) := by
    refine RL.of (base := 0) (ok := fun _ => True) ⟨fun _ _ => trivial, inner ++ [.bool a.f0, .int .u64 a.f1, .int .u64 a.f2, .int .i64 bits], ?_, ?_⟩
    · rw [List.length_append]
      exact hown
    · refine (Reps.snoc (hr.imp_ (fun y cs hq => ?_)) ?_ rfl)
      · obtain rfl := k34_openM hq
        exact k34_mkM _ _ _ _
      · exact k34_mkM w6 0 _ (⟨a, bits⟩ : Lo)
  have hm := dem_lset (w' := w6.setCell ⟨lb, i, none⟩ (.slice (some ⟨gg, 0, none⟩) (p.ls.length + 1) cap)) h hv hp hx ⟨some ⟨gg, 0, none⟩, p.ls.length + 1, cap⟩ (p.ls ++ [⟨a, bits⟩]) ?_ ?_ ?_ ?_ ?_
  · rw [modify_of hp (fun p => { p with ls := p.ls ++ [⟨a, bits⟩] }) (fun q => { q with ls := p.ls ++ [⟨a, bits⟩] }) rfl]
    refine ⟨_, _, _, _, hm, ?_, ?_⟩
    · intro k hk
      rcases hk with q | q
      · exact .inl q
      · obtain rfl : gg = k := Option.some.inj q
        exact .inr (by omega)
    · refine ⟨((hg.os.trans rfl).trans hb5.os).trans hb.os, ((hg.tape.trans rfl).trans hb5.tape).trans hb.tape, ((hg.output.trans rfl).trans hb5.output).trans hb.output, by omega, fun k hk hn => ?_⟩
      exact ((hfar k (fun e => hn (e ▸ h.its.2.2.1 lb hvo))).trans (hF k (by omega))).trans (hb.block k hk)
  · have h4 := (hF lb hll).trans hcp
    rw [MReader.setCell_heap h4, MReader.setCell_heap hcp]
    rfl
  · exact hRL.keep (fun k hk => hfar k (by obtain rfl : gg = k := Option.some.inj hk; omega))
  · intro k hk
    obtain rfl : gg = k := Option.some.inj hk
    exact hgg
  · intro k h1 h2
    exact (hfar k h2).trans (hF k h1)
  · omega
set_option maxHeartbeats 4000000 in
set_option maxRecDepth 100000 in
theorem dput_done (h : Dem w S db v1 v2 ls st) (h8 : st.length ≤ 8) (hls : ∀ p ∈ st, p.ls.length ≤ 8) (n : Int) (a : Ad) (ha : AdOk a) (bits : Int) {i : Nat} (hn : at? st n = some i) (hbad : putBad st i a bits = false) {p : Pt} (hp : st[i]? = some p) (hfull : p.ls.length < 8) :
    Calls Try.prog 35 #[.pointer (some ⟨db, 0, none⟩), .int .i64 n, .agg (adA a), .int .i64 bits] w fun e w' => e = .returned (.int .i64 0) ∧ DStepped w w' S db (st.modify i fun p => { p with ls := p.ls ++ [⟨a, bits⟩] }) := by
  have HB := Aside0.mk (Below.refl w.heap.size w)
  obtain ⟨p', pb, c, hp', hv, hS, hcell⟩ := datP h hn
  obtain rfl : p = p' := Option.some.inj (hp.symm.trans hp')
  have p2 := (hcell (j := 2) (u := .int .i64 p.mtu) rfl).1
  obtain ⟨x0, x1⟩ := MBlk.c2 h.blk
  rw [hv] at x0
  obtain ⟨hm, h0, hsix⟩ := putBad_not hp hbad
  have HSX := Aside0.mk hsix
  obtain ⟨hc25, hva, hb1, hb2⟩ := (Pure.may_iff a bits).1 hm
  obtain ⟨hi, hni⟩ := at_lt hn
  obtain ⟨yl, lb, cl, hyl, hvl, hSl, lcell, lfree⟩ := datL h hi
  rw [hvl] at x1
  obtain ⟨A, cA, el⟩ := (h.like i p yl hp hyl).slice
  obtain ⟨y, hy⟩ : ∃ y : Int, (i : Int) = y := ⟨_, rfl⟩
  have hyi : y.toNat = i := by omega
  have hw : wrap64 (n - 1) = y := by unfold wrap64; omega
  have hwI : IntKind.i64.wrap (n - 1) = y := by rw [IntWalk.i64_in _ (by omega)]; omega
  have z1 : (0 ≤ y) = True := eq_true (by omega)
  have q1 : (y < (st.length : Int)) = True := eq_true (by omega)
  have hmine := fun W (hW : Dem W S db v1 v2 ls st) => dmine_calls hW h8 hls a
  rw [h0] at hmine
  have hcls := dclass_calls a ha
  have hwid := dwidth_calls a
  have hth := fun W (hW : Dem W S db v1 v2 ls st) => there_calls hW h8 n
  rw [hn] at hth
  obtain ⟨q, hq⟩ : ∃ q, Pure.cls a.f0 a.f1 a.f2 = q := ⟨_, rfl⟩
  rw [hq] at hcls hc25
  obtain ⟨wd, hwd⟩ : ∃ wd : Int, ((Pure.wd a.f0 : Nat) : Int) = wd := ⟨_, rfl⟩
  rw [hwd] at hwid hb2
  have hb1' : ¬ bits < 1 := by omega
  have hb2' : ¬ wd < bits := by omega
  have lfree' := lfree
  rw [el] at lcell
  have hfl : decide ((8 : Int) ≤ (p.ls.length : Int)) = false := decide_eq_false (by omega)
  have hfl2 : (p.ls.length : Int) < 8 := by omega
  have HLT := Aside0.mk hfull
  have HLB0 := Aside0.mk (show lb < w.heap.size ∧ db < w.heap.size ∧ w.frozen? ⟨lb, i, none⟩ = false from ⟨h.lt lb hSl, h.lt db h.its.1, lfree⟩)
  clear hbad hcell hni hy hi hq hwd hm hva hsix hb1 hb2 hp' h0 hfull lfree lfree'
  go_enter Try.func35, Try.ntmps35
  go_wp2_with (first | ((with_reducible refine gate_dst (N := 6) rfl ?_); refine sh_E 6 25 (adA a) ?_; intro g hg w1 hbox hb; replace HB := sh_S HB hb; have BK := Aside0.mk hbox; obtain ⟨c0, c1, c2⟩ := MBlk.c3 hbox; replace p2 := pw_cell_below hb p2; replace x0 := pw_cell_below hb x0; replace x1 := pw_cell_below hb x1; replace lcell := pw_cell_below hb lcell; have HM := Aside0.mk (h.below hb); clear hbox hb hg) | fail)
  refine Calls.mono (hth _ HM.out) ?_
  rintro e w' ⟨rfl, rfl⟩
  go_wp2_with fail
  refine Calls.mono (hcls _) ?_
  rintro e w2 ⟨rfl, hb⟩
  have HB2 := Aside0.mk (below_step HB.out hb)
  have HM2 := Aside0.mk (HM.out.below hb)
  have BK2 := Aside0.mk (blk_below BK.out hb)
  replace c0 := pw_cell_below hb c0
  replace c1 := pw_cell_below hb c1
  replace c2 := pw_cell_below hb c2
  replace p2 := pw_cell_below hb p2
  replace x0 := pw_cell_below hb x0
  replace x1 := pw_cell_below hb x1
  replace lcell := pw_cell_below hb lcell
  clear hb
  have hsix2 : a.f0 = false ∨ (a.f0 = true ∧ decide (p.mtu < 1280) = false) := by
    cases hs : a.f0 with
    | false => exact .inl rfl
    | true => exact .inr ⟨rfl, decide_eq_false (by have := HSX.out hs; omega)⟩
  have HSX2 := Aside0.mk hsix2
  clear hsix2
  rcases hc25 with rfl | rfl
  all_goals (
    go_wp2_with fail
    refine Calls.mono (hwid _) ?_
    rintro e w3 ⟨rfl, hb⟩
    have HB3 := Aside0.mk (below_step HB2.out hb)
    have HM3 := Aside0.mk (HM2.out.below hb)
    have BK3 := Aside0.mk (blk_below BK2.out hb)
    replace c0 := pw_cell_below hb c0
    replace c1 := pw_cell_below hb c1
    replace c2 := pw_cell_below hb c2
    replace p2 := pw_cell_below hb p2
    replace x0 := pw_cell_below hb x0
    replace x1 := pw_cell_below hb x1
    replace lcell := pw_cell_below hb lcell
    clear hb
    go_wp2_with fail
    refine Calls.mono (hmine _ HM3.out) ?_
    rintro e w4 ⟨rfl, hb⟩
    have HB4 := Aside0.mk (below_step HB3.out hb)
    have HM4 := Aside0.mk (HM3.out.below hb)
    have BK4 := Aside0.mk (blk_below BK3.out hb)
    replace c0 := pw_cell_below hb c0
    replace c1 := pw_cell_below hb c1
    replace c2 := pw_cell_below hb c2
    replace p2 := pw_cell_below hb p2
    replace x0 := pw_cell_below hb x0
    replace x1 := pw_cell_below hb x1
    replace lcell := pw_cell_below hb lcell
    clear hb
    have C0 := Aside0.mk c0
    have hs2 := HSX2.out
    rcases hs2 with hs | ⟨hs, hmt⟩
    · rw [hs] at c0
      have hr4 := HM4.out.like i p yl hp hyl
      rw [el] at hr4
      have HROW := Aside0.mk (show k34.C w4 A p.ls.length p.ls from by obtain ⟨A', c'', e1, e2⟩ := RL.reads hr4; injection e1 with e1; rw [e1]; exact e2)
      have hle4 := HB4.out.size
      have HLB := Aside0.mk (show lb < w4.heap.size ∧ w4.frozen? ⟨lb, i, none⟩ = false from ⟨by have := HLB0.out.1; omega, (World.frozen?_of_block (a := ⟨lb, i, none⟩) (HB4.out.block lb HLB0.out.1)).trans HLB0.out.2.2⟩)
      have HLB2 := Aside0.mk (show db < w4.heap.size by have := HLB0.out.2.1; omega)
      clear hr4 hle4
      go_upto_region 10 with (first | ((with_reducible refine gate_builtin (b := .append) (xs := #[.tmp 65, .tmp 73]) rfl ?_); at_builtin; refine Kd.R_append_rows k34 (Rr := Kd.K k34 w4) (w0 := w4) w4.heap.size rfl (.tmp 65) (.tmp 73) 31 34 (.agg #[.bool false, .int .u64 0, .int .u64 0, .int .i64 0]) 32 rfl Try.underlying31 (by kernel_rfl) rfl (by decide) (by decide) (.slice none 0 0) [] p.ls _ _ _ (fun _ => True) (fun _ => False) rfl rfl (Kd.R_nil k34 _ _ w4.heap.size (fun _ => True)) HROW.out ?aK (fun _ h => h.elim) (fun _ _ => trivial) (Below.refl _ _) (Nat.le_refl _) ?aL ?_; (case aK => exact (fun y cs hq => by obtain rfl := k34_open hq; exact k34_mkM _ _ _ _)); (case aL => simp only [List.length_nil]; have := HLT.out; omega); intro u5 w5 ho hb hg hat; have hrow5 := RL.of ho; rw [List.nil_append] at hrow5; obtain ⟨A5, c5, eu⟩ := hrow5.slice; subst eu; have HR5 := Aside0.mk hrow5; have HO5 := Aside0.mk (show ∀ k, (Value.slice A5 p.ls.length c5).ownBlock = some k → w4.heap.size ≤ k from own_new hat); have HB5 := Aside0.mk hb; clear ho hg hat hrow5; replace c0 := pw_cell_below hb c0; replace c1 := pw_cell_below hb c1; replace c2 := pw_cell_below hb c2; replace x1 := pw_cell_below hb x1; replace lcell := pw_cell_below hb lcell; clear hb) | fail)
      obtain ⟨i0, hi0, hz0, hz1, hz2⟩ := info_parts (show (Try.prog.info? 34).map (fun i => (i.zero, i.size, i.bytes)) = some (some (.agg #[.bool false, .int .u64 0, .int .u64 0, .int .i64 0]), 4, 32) by kernel_rfl)
      have hlf5 : w5.frozen? ⟨lb, i, none⟩ = false := (World.frozen?_of_block (a := ⟨lb, i, none⟩) (HB5.out.block lb HLB.out.1)).trans HLB.out.2
      obtain ⟨_, inner, hown5, hreps5⟩ := HR5.out
      have HOWN := Aside0.mk hown5
      have HREPS := Aside0.mk hreps5
      have hnw := Aside0.mk (World.news_of_block (w := w5.alloc (.cells #[.bool false, .int .u64 a.f1, .int .u64 a.f2, .int .i64 bits] 34)) (cs := #[.bool false, .int .u64 a.f1, .int .u64 a.f2, .int .i64 bits]) (t := 34) (fr := (0, 0)) (heap_alloc_new w5 _))
      have hn2 := Aside0.mk (show p.ls.length + 1 ≤ maxLen by have := HLT.out; unfold maxLen; omega)
      have hn3 := Aside0.mk (show (p.ls.length + 1) * 32 ≤ 140737488355328 by have := HLT.out; omega)
      have hlb5 : lb < w5.heap.size := by have := HB5.out.size; have := HLB.out.1; omega
      have HLO := Aside0.mk (show (Value.slice A5 p.ls.length c5).ownBlock ≠ some lb from fun e => by have := HO5.out lb e; have := HLB.out.1; omega)
      have HL5 := Aside0.mk hlb5
      have hne1 := World.new_ne w5 _ x1
      have x1a : ∀ o, (w5.drew.alloc o).cell? ⟨db, 1, none⟩ = some (.slice (some ⟨lb, 0, none⟩) st.length cl) := fun o => (World.cell?_alloc_some _ _ _ (by rw [show w5.drew.cell? _ = _ from x1]; rfl)).trans x1
      have x1b : ∀ o, (w5.alloc o).cell? ⟨db, 1, none⟩ = some (.slice (some ⟨lb, 0, none⟩) st.length cl) := fun o => (World.cell?_alloc_some _ _ _ (by rw [x1]; rfl)).trans x1
      clear hown5 hreps5 hlb5
      have hdbo : (Value.slice A5 p.ls.length c5).ownBlock ≠ some db := fun e => by have := HO5.out db e; have := HLB2.out; omega
      have HDBO := Aside0.mk hdbo
      have hdb5 : db < w5.heap.size := by have := HB5.out.size; have := HLB2.out; omega
      have HDB5 := Aside0.mk hdb5
      clear hdbo hdb5
      go_region_law (refine step_append_lies _ (by rfl) _ _ _ (by rfl) 0 34 i0 _ 4 32 Try.underlying31 hi0 hz0 hz1 hz2 rfl (by omega) _ p.ls.length _ (by rfl) ((HOWN.out.alloc _).drew) ⟨w5.heap.size, 0, none⟩ 1 1 _ (by rfl) (by rfl) hnw.out (by simp [Value.oneCell']) (by omega) hn2.out hn3.out (Nat.zero_le _) (w5.heap.size + 1) (by simp) ?_; intro gg cap w6 hown1 hgrow hat hlt; have HF6 := Aside0.mk (show ∀ k, k < w5.heap.size → (Value.slice A5 p.ls.length c5).ownBlock ≠ some k → w6.heap[k]? = w5.heap[k]? from fun k h1 h2 => (hgrow.block k (by simp; omega) (fun e => h2 e.symm)).trans ((World.grownBy_alloc w5 _ none).block k h1 (by simp))); have cw6 := (World.cell?_of_block (a := ⟨lb, i, none⟩) (HF6.out lb HL5.out HLO.out)).trans lcell; have fw6 := (World.frozen?_of_block (a := ⟨lb, i, none⟩) (HF6.out lb HL5.out HLO.out)).trans hlf5; have cd6 := (World.cell?_of_block (a := ⟨db, 1, none⟩) (HF6.out db HDB5.out HDBO.out)).trans x1; have HOW := Aside0.mk hown1; have HGR := Aside0.mk hgrow; have HAT := Aside0.mk hat; clear hown1 hgrow hat)
      all_goals (go_wp2; go_ret; exact ⟨rfl, dput_fin HB4.out HM4.out hvl hp hyl HB5.out HREPS.out false hs HOW.out HGR.out HO5.out HAT.out⟩)
    · rw [hs] at c0
      have hr4 := HM4.out.like i p yl hp hyl
      rw [el] at hr4
      have HROW := Aside0.mk (show k34.C w4 A p.ls.length p.ls from by obtain ⟨A', c'', e1, e2⟩ := RL.reads hr4; injection e1 with e1; rw [e1]; exact e2)
      have hle4 := HB4.out.size
      have HLB := Aside0.mk (show lb < w4.heap.size ∧ w4.frozen? ⟨lb, i, none⟩ = false from ⟨by have := HLB0.out.1; omega, (World.frozen?_of_block (a := ⟨lb, i, none⟩) (HB4.out.block lb HLB0.out.1)).trans HLB0.out.2.2⟩)
      have HLB2 := Aside0.mk (show db < w4.heap.size by have := HLB0.out.2.1; omega)
      clear hr4 hle4
      go_upto_region 10 with (first | ((with_reducible refine gate_builtin (b := .append) (xs := #[.tmp 65, .tmp 73]) rfl ?_); at_builtin; refine Kd.R_append_rows k34 (Rr := Kd.K k34 w4) (w0 := w4) w4.heap.size rfl (.tmp 65) (.tmp 73) 31 34 (.agg #[.bool false, .int .u64 0, .int .u64 0, .int .i64 0]) 32 rfl Try.underlying31 (by kernel_rfl) rfl (by decide) (by decide) (.slice none 0 0) [] p.ls _ _ _ (fun _ => True) (fun _ => False) rfl rfl (Kd.R_nil k34 _ _ w4.heap.size (fun _ => True)) HROW.out ?aK (fun _ h => h.elim) (fun _ _ => trivial) (Below.refl _ _) (Nat.le_refl _) ?aL ?_; (case aK => exact (fun y cs hq => by obtain rfl := k34_open hq; exact k34_mkM _ _ _ _)); (case aL => simp only [List.length_nil]; have := HLT.out; omega); intro u5 w5 ho hb hg hat; have hrow5 := RL.of ho; rw [List.nil_append] at hrow5; obtain ⟨A5, c5, eu⟩ := hrow5.slice; subst eu; have HR5 := Aside0.mk hrow5; have HO5 := Aside0.mk (show ∀ k, (Value.slice A5 p.ls.length c5).ownBlock = some k → w4.heap.size ≤ k from own_new hat); have HB5 := Aside0.mk hb; clear ho hg hat hrow5; replace c0 := pw_cell_below hb c0; replace c1 := pw_cell_below hb c1; replace c2 := pw_cell_below hb c2; replace x1 := pw_cell_below hb x1; replace lcell := pw_cell_below hb lcell; clear hb) | fail)
      obtain ⟨i0, hi0, hz0, hz1, hz2⟩ := info_parts (show (Try.prog.info? 34).map (fun i => (i.zero, i.size, i.bytes)) = some (some (.agg #[.bool false, .int .u64 0, .int .u64 0, .int .i64 0]), 4, 32) by kernel_rfl)
      have hlf5 : w5.frozen? ⟨lb, i, none⟩ = false := (World.frozen?_of_block (a := ⟨lb, i, none⟩) (HB5.out.block lb HLB.out.1)).trans HLB.out.2
      obtain ⟨_, inner, hown5, hreps5⟩ := HR5.out
      have HOWN := Aside0.mk hown5
      have HREPS := Aside0.mk hreps5
      have hnw := Aside0.mk (World.news_of_block (w := w5.alloc (.cells #[.bool true, .int .u64 a.f1, .int .u64 a.f2, .int .i64 bits] 34)) (cs := #[.bool true, .int .u64 a.f1, .int .u64 a.f2, .int .i64 bits]) (t := 34) (fr := (0, 0)) (heap_alloc_new w5 _))
      have hn2 := Aside0.mk (show p.ls.length + 1 ≤ maxLen by have := HLT.out; unfold maxLen; omega)
      have hn3 := Aside0.mk (show (p.ls.length + 1) * 32 ≤ 140737488355328 by have := HLT.out; omega)
      have hlb5 : lb < w5.heap.size := by have := HB5.out.size; have := HLB.out.1; omega
      have HLO := Aside0.mk (show (Value.slice A5 p.ls.length c5).ownBlock ≠ some lb from fun e => by have := HO5.out lb e; have := HLB.out.1; omega)
      have HL5 := Aside0.mk hlb5
      have hne1 := World.new_ne w5 _ x1
      have x1a : ∀ o, (w5.drew.alloc o).cell? ⟨db, 1, none⟩ = some (.slice (some ⟨lb, 0, none⟩) st.length cl) := fun o => (World.cell?_alloc_some _ _ _ (by rw [show w5.drew.cell? _ = _ from x1]; rfl)).trans x1
      have x1b : ∀ o, (w5.alloc o).cell? ⟨db, 1, none⟩ = some (.slice (some ⟨lb, 0, none⟩) st.length cl) := fun o => (World.cell?_alloc_some _ _ _ (by rw [x1]; rfl)).trans x1
      clear hown5 hreps5 hlb5
      have hdbo : (Value.slice A5 p.ls.length c5).ownBlock ≠ some db := fun e => by have := HO5.out db e; have := HLB2.out; omega
      have HDBO := Aside0.mk hdbo
      have hdb5 : db < w5.heap.size := by have := HB5.out.size; have := HLB2.out; omega
      have HDB5 := Aside0.mk hdb5
      clear hdbo hdb5
      go_region_law (refine step_append_lies _ (by rfl) _ _ _ (by rfl) 0 34 i0 _ 4 32 Try.underlying31 hi0 hz0 hz1 hz2 rfl (by omega) _ p.ls.length _ (by rfl) ((HOWN.out.alloc _).drew) ⟨w5.heap.size, 0, none⟩ 1 1 _ (by rfl) (by rfl) hnw.out (by simp [Value.oneCell']) (by omega) hn2.out hn3.out (Nat.zero_le _) (w5.heap.size + 1) (by simp) ?_; intro gg cap w6 hown1 hgrow hat hlt; have HF6 := Aside0.mk (show ∀ k, k < w5.heap.size → (Value.slice A5 p.ls.length c5).ownBlock ≠ some k → w6.heap[k]? = w5.heap[k]? from fun k h1 h2 => (hgrow.block k (by simp; omega) (fun e => h2 e.symm)).trans ((World.grownBy_alloc w5 _ none).block k h1 (by simp))); have cw6 := (World.cell?_of_block (a := ⟨lb, i, none⟩) (HF6.out lb HL5.out HLO.out)).trans lcell; have fw6 := (World.frozen?_of_block (a := ⟨lb, i, none⟩) (HF6.out lb HL5.out HLO.out)).trans hlf5; have cd6 := (World.cell?_of_block (a := ⟨db, 1, none⟩) (HF6.out db HDB5.out HDBO.out)).trans x1; have HOW := Aside0.mk hown1; have HGR := Aside0.mk hgrow; have HAT := Aside0.mk hat; clear hown1 hgrow hat)
      all_goals (go_wp2; go_ret; exact ⟨rfl, dput_fin HB4.out HM4.out hvl hp hyl HB5.out HREPS.out true hs HOW.out HGR.out HO5.out HAT.out⟩))
theorem dput_calls (h : Dem w S db v1 v2 ls st) (h8 : st.length ≤ 8) (hls : ∀ p ∈ st, p.ls.length ≤ 8) (n : Int) (a : Ad) (ha : AdOk a) (bits : Int) :
    Calls Try.prog 35 #[.pointer (some ⟨db, 0, none⟩), .int .i64 n, .agg (adA a), .int .i64 bits] w fun e w' => e = .returned (.int .i64 (put st n a bits).2) ∧ DStepped w w' S db (put st n a bits).1 := by
  cases hn : at? st n with
  | none =>
    have e : put st n a bits = (st, 132) := by unfold put; rw [hn]
    rw [e]
    exact Calls.mono (dput_none h h8 n a bits hn) (fun _ _ q => ⟨q.1, DStepped.same h q.2⟩)
  | some i =>
    obtain ⟨p, pb, c, hp, hv, hS, _⟩ := datP h hn
    cases hbad : putBad st i a bits with
    | true =>
      have e : put st n a bits = (st, 133) := by unfold put; rw [hn]; simp only; rw [if_pos hbad]
      rw [e]
      exact Calls.mono (dput_bad h h8 hls n a ha bits hn hbad) (fun _ _ q => ⟨q.1, DStepped.same h q.2⟩)
    | false =>
      have hnb : ¬ putBad st i a bits = true := by rw [hbad]; decide
      have hl : (st[i]?.map (·.ls.length)).getD 0 = p.ls.length := by rw [hp]; rfl
      have h88 := hls p (List.mem_of_getElem? hp)
      by_cases h8b : p.ls.length = 8
      · have e : put st n a bits = (st, 131) := by unfold put; rw [hn]; simp only; rw [if_neg hnb, if_pos (by rw [hl]; exact h8b)]
        rw [e]
        exact Calls.mono (dput_full h h8 hls n a ha bits hn hbad hp h8b) (fun _ _ q => ⟨q.1, DStepped.same h q.2⟩)
      · have e : put st n a bits = (st.modify i fun p => { p with ls := p.ls ++ [⟨a, bits⟩] }, 0) := by unfold put; rw [hn]; simp only; rw [if_neg hnb, if_neg (by rw [hl]; exact h8b)]
        rw [e]
        exact dput_done h h8 hls n a ha bits hn hbad hp (by omega)
end
end Go.Proofs.Ytefbcigccfkkgaa.WIf
