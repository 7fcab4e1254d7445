import Derived.Test.YtefbcigccfkkgaaMIface
import Derived.Test.YtefbcigccfkkgaaMStr
import Derived.Test.YtefbcigccfkkgaaMCopy
import Derived.Test.YtefbcigccfkkgaaPBasex1
import Derived.Test.YtefbcigccfkkgaaMShort
import Derived.Outline
import Derived.Deep.QuietTactic
import Derived.BigQuiet
import Derived.Deep.RegionHeld3
import Derived.StillTailTactics
import Derived.WalkMore
import Derived.WalkSmall
import Derived.WalkSpells
import Derived.StringKeys
import Derived.Lib.OthersKept
import Derived.Laws.RangeAny
import Derived.Deep.AppendLies
set_option linter.unusedVariables false
set_option linter.unusedSimpArgs false
namespace Go.Proofs.Ytefbcigccfkkgaa.WIf
open Go.RowKit Go.Maps Go.WideMaps Go.Proofs.Ytefbcigccfkkgaa.PBase Go.Proofs.YtefbcigccfkkgaaW.PrintWords Go.Proofs.YtefbcigccfkkgaaW.PrintLast Go.Proofs.YtefbcigccfkkgaaW.PrintMore Go.Proofs.Ytefbcigccfkkgaa.If
attribute [local go_sem] max2_int min2_int max_two min_two
section
variable {w : World} {S : Nat → Prop} {sb mb : Nat} {v : Value} {xs : List PS} {st : St}
set_option maxHeartbeats 1000000 in
set_option maxRecDepth 100000 in
theorem of_none (h : Mem w S sb mb v xs st) (h8 : st.length ≤ 8) (n : Int) (hn : at? st n = none) :
    Calls Try.prog 26 #[.pointer (some ⟨sb, 0, none⟩), .int .i64 n] w fun e w' => e = .returned (.pointer none) ∧ w = w' := by
  have hb := MBlk.c2 h.blk
  obtain ⟨A, c, e⟩ := h.row.slice
  rw [h.len] at e
  subst e
  obtain ⟨x0, x1⟩ := hb
  have hd : n < 1 ∨ n > st.length := by
    unfold at? at hn
    split at hn
    · assumption
    · cases hn
  clear h hn
  by_cases h1 : n < 1
  · have h2 : decide (n < 1) = true := decide_eq_true h1
    clear h1 hd
    go_enter Try.func26, Try.ntmps26
    go_wp2
    go_ret
    exact ⟨rfl, rfl⟩
  · have h2 : decide (n < 1) = false := decide_eq_false h1
    have h3 : decide ((st.length : Int) < n) = true := decide_eq_true (by omega)
    clear h1 hd
    go_enter Try.func26, Try.ntmps26
    go_wp2
    go_ret
    exact ⟨rfl, rfl⟩
set_option maxHeartbeats 1000000 in
set_option maxRecDepth 100000 in
theorem of_some (h : Mem w S sb mb v xs st) (h8 : st.length ≤ 8) (n : Int) {i : Nat} (hn : at? st n = some i) {pb c : Nat} (hv : v = .slice (some ⟨pb, 0, none⟩) st.length c) :
    Calls Try.prog 26 #[.pointer (some ⟨sb, 0, none⟩), .int .i64 n] w fun e w' => e = .returned (.pointer (some ⟨pb, i * 5, none⟩)) ∧ w = w' := by
  obtain ⟨x0, x1⟩ := MBlk.c2 h.blk
  subst hv
  obtain ⟨hi, rfl⟩ := at_lt hn
  have h2 : decide (((i : Int) + 1) < 1) = false := decide_eq_false (by omega)
  have h3 : decide ((st.length : Int) < ((i : Int) + 1)) = false := decide_eq_false (by omega)
  have h4 : wrap64 ((i : Int) + 1 - 1) = (i : Int) := by unfold wrap64; omega
  have h5 : (0 ≤ (i : Int)) = True := eq_true (by omega)
  have h6 : ((i : Int) < (st.length : Int)) = True := eq_true (by omega)
  clear h hn
  obtain ⟨x, hx⟩ : ∃ x : Int, (i : Int) + 1 = x := ⟨_, rfl⟩
  obtain ⟨y, hy⟩ : ∃ y : Int, (i : Int) = y := ⟨_, rfl⟩
  have hyi : y.toNat = i := by omega
  rw [hx] at h2 h3 h4 ⊢
  rw [hy] at h4 h5 h6
  clear hx hy hi
  go_enter Try.func26, Try.ntmps26
  go_wp2
  go_ret
  exact ⟨rfl, rfl⟩
theorem at_get (h : Mem w S sb mb v xs st) {n : Int} {i : Nat} (hn : at? st n = some i) : ∃ p x pb c, st[i]? = some p ∧ xs[i]? = some x ∧ v = .slice (some ⟨pb, 0, none⟩) st.length c ∧ S pb := by
  obtain ⟨hi, _⟩ := at_lt hn
  have hl := h.len
  obtain ⟨pb, c, e⟩ := h.row.shape (by omega)
  rw [hl] at e
  exact ⟨_, _, pb, c, List.getElem?_eq_getElem hi, List.getElem?_eq_getElem (by omega), e, h.its.2.2.1 pb (by rw [e]; rfl)⟩
set_option maxHeartbeats 1000000 in
set_option maxRecDepth 100000 in
theorem turn_calls (h : Mem w S sb mb v xs st) (h8 : st.length ≤ 8) (n : Int) (up : Bool) :
    Calls Try.prog 21 #[.pointer (some ⟨sb, 0, none⟩), .int .i64 n, .bool up] w fun e w' => e = .returned (.int .i64 (turn st n up).2) ∧ (∃ xs', Mem w' S sb mb v xs' (turn st n up).1) ∧ Fr S w w' := by
  cases hn : at? st n with
  | none =>
    have e : turn st n up = (st, 132) := by unfold turn; rw [hn]
    rw [e]
    go_enter Try.func21, Try.ntmps21
    go_wp2_with fail
    refine Calls.mono (of_none h h8 n hn) ?_
    rintro e w' ⟨rfl, rfl⟩
    go_wp2
    go_ret
    exact ⟨rfl, ⟨_, h⟩, Fr.refl _ _⟩
  | some i =>
    have e : turn st n up = (st.modify i fun p => { p with up := up }, 0) := by unfold turn; rw [hn]
    rw [e]
    obtain ⟨p, x, pb, c, hp, hx, hv, hS⟩ := at_get h hn
    obtain ⟨hc, hf⟩ := (hv ▸ h.row).cell hx (j := 3) rfl
    have hm := h.setUp hv hp hx up
    have hof := of_some h h8 n hn hv
    clear h e hp hx hn hv
    go_enter Try.func21, Try.ntmps21
    go_wp2_with fail
    refine Calls.mono hof ?_
    rintro e w' ⟨rfl, rfl⟩
    go_wp2
    go_ret
    exact ⟨rfl, ⟨_, hm⟩, Fr.set _ _ _ _ hS⟩
def portR (st : St) (n : Int) : S50 × Bool := match at? st n with | none => (z50, false) | some i => match st[i]? with | none => (z50, false) | some p => (⟨p.nm, p.mac, p.mtu, p.up⟩, true)
theorem put4 {w : World} {g t : Nat} {a0 a1 a2 a3 b0 b1 b2 b3 : Value} (h : w.heap[g]? = some (.cells #[a0, a1, a2, a3] t (0, 0))) : ((((w.setCell ⟨g, 0, none⟩ b0).setCell ⟨g, 1, none⟩ b1).setCell ⟨g, 2, none⟩ b2).setCell ⟨g, 3, none⟩ b3).heap[g]? = some (.cells #[b0, b1, b2, b3] t (0, 0)) :=
  blk_put (blk_put (blk_put (blk_put h 0 b0 rfl) 1 b1 rfl) 2 b2 rfl) 3 b3 rfl
set_option maxHeartbeats 1000000 in
set_option maxRecDepth 100000 in
theorem port_calls (h : Mem w S sb mb v xs st) (h8 : st.length ≤ 8) (n : Int) :
    Calls Try.prog 18 #[.pointer (some ⟨sb, 0, none⟩), .int .i64 n] w fun e w' => e = .returned (.tuple #[.agg #[.string (portR st n).1.f0, .int .u64 (portR st n).1.f1, .int .i64 (portR st n).1.f2, .bool (portR st n).1.f3], .bool (portR st n).2]) ∧ Below w.heap.size w w' := by
  have hu50 := Try.underlying50
  have HB := Aside0.mk (Below.refl w.heap.size w)
  cases hn : at? st n with
  | none =>
    have e : portR st n = (z50, false) := by unfold portR; rw [hn]
    rw [e]
    go_enter Try.func18, Try.ntmps18
    go_wp2_with (first | ((with_reducible refine gate_dst (N := 4) rfl ?_); refine sh_E 4 50 #[.string (⟨#[]⟩ : ByteArray), .int .u64 0, .int .i64 0, .bool false] ?_; intro g hg w1 hbox hb; have BK := Aside0.mk hbox; have GE := sh_G HB hg; replace HB := sh_S HB hb; obtain ⟨c0, c1, c2, c3⟩ := MBlk.c4 hbox; obtain ⟨f0, f1, f2, f3⟩ := MBlk.f4 hbox; have HM := Aside0.mk (h.below hb); clear hbox hb hg) | fail)
    refine Calls.mono (of_none HM.out h8 n hn) ?_
    rintro e w' ⟨rfl, rfl⟩
    go_wp2
    refine bodyPost_ret (results_ct rfl _ _ g 50 #[.string (⟨#[]⟩ : ByteArray), .int .u64 0, .int .i64 0, .bool false] (0, 0) _ rfl (put4 BK.out) hu50 rfl (by kernel_rfl)) rfl ?_
    exact ⟨rfl, sh_B HB⟩
  | some i =>
    obtain ⟨p, x, pb, c, hp, hx, hv, hS⟩ := at_get h hn
    have e : portR st n = (⟨p.nm, p.mac, p.mtu, p.up⟩, true) := by unfold portR; rw [hn]; simp only [hp]
    rw [e]
    obtain ⟨l1, _⟩ := h.like i p x hp hx
    have p0 := ((hv ▸ h.row).cell hx (j := 0) rfl).1
    have p1 := ((hv ▸ h.row).cell hx (j := 1) rfl).1
    have p2 := ((hv ▸ h.row).cell hx (j := 2) rfl).1
    have p3 := ((hv ▸ h.row).cell hx (j := 3) rfl).1
    rw [l1] at p0 p1 p2 p3
    rw [Nat.add_zero] at p0
    clear e
    go_enter Try.func18, Try.ntmps18
    go_wp2_with (first | ((with_reducible refine gate_dst (N := 4) rfl ?_); refine sh_E 4 50 #[.string (⟨#[]⟩ : ByteArray), .int .u64 0, .int .i64 0, .bool false] ?_; intro g hg w1 hbox hb; have BK := Aside0.mk hbox; have GE := sh_G HB hg; replace HB := sh_S HB hb; obtain ⟨c0, c1, c2, c3⟩ := MBlk.c4 hbox; obtain ⟨f0, f1, f2, f3⟩ := MBlk.f4 hbox; replace p0 := pw_cell_below hb p0; replace p1 := pw_cell_below hb p1; replace p2 := pw_cell_below hb p2; replace p3 := pw_cell_below hb p3; have HM := Aside0.mk (h.below hb); clear hbox hb hg) | fail)
    refine Calls.mono (of_some HM.out h8 n hn hv) ?_
    rintro e w' ⟨rfl, rfl⟩
    go_wp2
    refine bodyPost_ret (results_ct rfl _ _ g 50 #[.string p.nm, .int .u64 p.mac, .int .i64 p.mtu, .bool p.up] (0, 0) _ rfl (put4 BK.out) hu50 rfl (by kernel_rfl)) rfl ?_
    exact ⟨rfl, sh_B HB⟩
theorem keyed : Keyed Try.prog 9 := string_keyed Try.underlying9
set_option maxHeartbeats 1000000 in
set_option maxRecDepth 100000 in
theorem named_calls (h : Mem w S sb mb v xs st) (s : ByteArray) (hs : s.size ≤ maxLen) :
    Calls Try.prog 19 #[.pointer (some ⟨sb, 0, none⟩), .string s] w fun e w' => e = .returned (.int .i64 (named st s)) ∧ w = w' := by
  obtain ⟨x0, x1⟩ := MBlk.c2 h.blk
  obtain ⟨n, D, hown, _, hD⟩ := h.map
  have zeroE : (zeroValue 3).run Try.prog w = .ok (.int .i64 0) w := by kernel_rfl
  obtain ⟨c, hrun, hat, _⟩ := hown.lookup_int keyed Try.underlying69 Try.underlying3 zeroE (keyOf_string_mk Try.underlying9 hs)
  rw [hD s] at hat
  have hc : c = named st s := by injection hat with q; injection q with _ q; exact q.symm
  subst hc
  clear hat h hown hD
  go_enter Try.func19, Try.ntmps19
  go_wp2
  go_ret
  exact ⟨rfl, rfl⟩
end
theorem mem_new (w : World) : Mem ((w.alloc (.map #[] 0)).alloc (.cells #[.slice none 0 0, .map (some w.heap.size)] 71 (0, 0))) (fun k => k = w.heap.size ∨ k = w.heap.size + 1) (w.heap.size + 1) w.heap.size (.slice none 0 0) [] [] where
  blk := by
    have := blk_new (w.alloc (.map #[] 0)) (.cells #[.slice none 0 0, .map (some w.heap.size)] 71 (0, 0))
    rwa [show (w.alloc (.map #[] 0)).heap.size = w.heap.size + 1 from Array.size_push ..] at this
  row := RP.nil _
  len := rfl
  like := fun i p x hp _ => by simp at hp
  sep := fun i j x y _ hx _ => by simp at hx
  map := ⟨0, .map [], (World.ownsMap_made w _ _ _).alloc _, Nat.le_refl _, fun s => rfl⟩
  its := ⟨.inr rfl, .inl rfl, fun k hk => by simp [Value.ownBlock] at hk, fun x hx => by cases hx⟩
  lt := fun k hk => by
    show k < ((w.heap.push _).push _).size
    rw [Array.size_push, Array.size_push]
    omega
set_option maxHeartbeats 1000000 in
set_option maxRecDepth 100000 in
theorem new_calls (w : World) : Calls Try.prog 13 #[] w fun e w' => ∃ sb mb S, e = .returned (.pointer (some ⟨sb, 0, none⟩)) ∧ Mem w' S sb mb (.slice none 0 0) [] [] ∧ (∀ k, S k → w.heap.size ≤ k) ∧ Below w.heap.size w w' := by
  have hmm := @run_makeMap Try.prog
  have hu := Try.underlying71
  go_enter Try.func13, Try.ntmps13
  go_wp2
  go_ret
  refine ⟨_, _, _, rfl, mem_new w, ?_, ?_⟩
  · rintro k (rfl | rfl) <;> omega
  · exact below_alloc (below_alloc (Below.refl _ _) _) _
end Go.Proofs.Ytefbcigccfkkgaa.WIf
namespace Go.Proofs.Ytefbcigccfkkgaa.WIf
open Go.RowKit Go.Maps Go.WideMaps Go.Proofs.Ytefbcigccfkkgaa.PBase Go.Proofs.YtefbcigccfkkgaaW.PrintWords Go.Proofs.YtefbcigccfkkgaaW.PrintLast Go.Proofs.YtefbcigccfkkgaaW.PrintMore Go.Proofs.Ytefbcigccfkkgaa.If
attribute [local go_sem] max2_int min2_int max_two min_two
attribute [local go_sem high] eqA25
set_option maxHeartbeats 1000000 in
set_option maxRecDepth 100000 in
theorem eqf_calls (w : World) (l : Lo) (a : Ad) (cb : Nat) (h0 : w.cell? ⟨cb, 0, none⟩ = some (.bool a.f0)) (h1 : w.cell? ⟨cb, 1, none⟩ = some (.int .u64 a.f1)) (h2 : w.cell? ⟨cb, 2, none⟩ = some (.int .u64 a.f2)) :
    Calls Try.prog 50 #[.agg #[.bool l.f0.f0, .int .u64 l.f0.f1, .int .u64 l.f0.f2, .int .i64 l.f1], .pointer (some ⟨cb, 0, none⟩)] w fun e w' => e = .returned (.bool (eqA l.f0 a)) ∧ Below w.heap.size w w' := by
  have hu25 := Try.underlying25
  have hu34 := Try.underlying34
  have HB := Aside0.mk (Below.refl w.heap.size w)
  go_enter Try.func50, Try.ntmps50
  go_wp2_with (first | ((with_reducible refine gate_dst (N := 2) rfl ?_); refine sh_E 2 34 #[.bool l.f0.f0, .int .u64 l.f0.f1, .int .u64 l.f0.f2, .int .i64 l.f1] ?_; intro g hg w1 hbox hb; replace HB := sh_S HB hb; obtain ⟨c0, c1, c2, c3⟩ := MBlk.c4 hbox; replace h0 := pw_cell_below hb h0; replace h1 := pw_cell_below hb h1; replace h2 := pw_cell_below hb h2; clear hbox hb hg) | fail)
  go_ret
  exact ⟨rfl, HB.out⟩
theorem RL.reads {w : World} {v : Value} {ls : List Lo} (h : RL w v ls) : ∃ A c, v = .slice A ls.length c ∧ k34.C w A ls.length ls := by
  obtain ⟨A, c, e⟩ := h.slice
  subst e
  exact ⟨A, c, rfl, (Kd.R_reads' h).2.2⟩
def idx (ls : List Lo) (a : Ad) : Int := match place ls a with | some k => (k : Int) | none => -1
theorem place_cons (l : Lo) (r : List Lo) (a : Ad) : place (l :: r) a = if eqA l.f0 a = true then some 0 else (place r a).map (· + 1) := rfl
theorem place_drop {ls : List Lo} {a : Ad} : ∀ {i : Nat}, (∀ j l, j < i → ls[j]? = some l → eqA l.f0 a = false) → place ls a = (place (ls.drop i) a).map (· + i) := by
  intro i
  induction i generalizing ls with
  | zero => intro _; cases h : place ls a <;> simp [h]
  | succ i ih =>
    intro h
    cases ls with
    | nil => rfl
    | cons l r =>
      have h0 := h 0 l (by omega) rfl
      have := ih (ls := r) (fun j m hj hm => h (j + 1) m (by omega) (by simpa using hm))
      rw [place_cons, if_neg (by rw [h0]; decide), this, List.drop_succ_cons, Option.map_map]
      refine congrArg (fun f => Option.map f _) (funext fun x => ?_)
      simp only [Function.comp]; omega
set_option maxHeartbeats 1000000 in
set_option maxRecDepth 100000 in
theorem index_calls (w : World) (A : Option Addr) (c cb : Nat) (ls : List Lo) (a : Ad) (hC : k34.C w A ls.length ls) (h8 : ls.length ≤ 8) (h0 : w.cell? ⟨cb, 0, none⟩ = some (.bool a.f0)) (h1 : w.cell? ⟨cb, 1, none⟩ = some (.int .u64 a.f1)) (h2 : w.cell? ⟨cb, 2, none⟩ = some (.int .u64 a.f2)) :
    Calls Try.prog 49 #[.slice A ls.length c, .func (.func 50) #[] #[.pointer (some ⟨cb, 0, none⟩)]] w fun e w' => e = .returned (.int .i64 (idx ls a)) ∧ Below w.heap.size w w' := by
  have hu34 := Try.underlying34
  have hu25 := Try.underlying25
  go_enter Try.func49, Try.ntmps49
  go_wp2
  go_loopg [5, 8] ls.length (fun kq v5 v8 w' => ∃ i : Nat, v8 = .int .i64 (i : Int) ∧ i + kq = ls.length ∧ (∀ j l, j < i → ls[j]? = some l → eqA l.f0 a = false) ∧ Aside0 (Below w.heap.size w w'))
  case atStart => exact ⟨0, rfl, by omega, fun j l hj => by omega, ⟨Below.refl _ _⟩⟩
  case round =>
    obtain ⟨i, rfl, hik, hno, HB⟩ := hrel
    by_cases hi : i < ls.length
    · obtain ⟨ad, e, x0, x1, x2, x3⟩ := at_T34 (Kd.C_below hC HB.out) (i : Int) (by omega) (by omega)
      subst e
      have hrd : rd_T34 ls (i : Int) = ls[i] := by
        unfold rd_T34
        rw [Int.toNat_natCast, List.getD_eq_getElem?_getD, List.getElem?_eq_getElem hi, Option.getD_some]
      rw [hrd] at x0 x1 x2 x3
      obtain ⟨l, hl⟩ : ∃ l, ls[i] = l := ⟨_, rfl⟩
      rw [hl] at x0 x1 x2 x3
      have hget : ls[i]? = some l := by rw [List.getElem?_eq_getElem hi, hl]
      have hd : place ls a = (place (ls.drop i) a).map (· + i) := place_drop hno
      rw [List.drop_eq_getElem_cons hi, hl, place_cons] at hd
      obtain ⟨x, hx⟩ : ∃ x : Int, (i : Int) = x := ⟨_, rfl⟩
      rw [hx] at x0 x1 x2 x3 ⊢
      have b1 : decide (x < (ls.length : Int)) = true := decide_eq_true (by omega)
      have p1 : (0 ≤ x) = True := eq_true (by omega)
      have q1 : (x < (ls.length : Int)) = True := eq_true (by omega)
      have hn : wrap64 (x + 1) = ((i + 1 : Nat) : Int) := by unfold wrap64; omega
      have y0 := pw_cell_below HB.out h0
      have y1 := pw_cell_below HB.out h1
      have y2 := pw_cell_below HB.out h2
      obtain ⟨gk, rfl⟩ : ∃ q, gk = q + 1 := ⟨gk - 1, by omega⟩
      go_wp2_with fail
      refine Calls.mono (eqf_calls _ l a cb y0 y1 y2) ?_
      rintro e w' ⟨rfl, hb⟩
      have HB2 := Aside0.mk (below_step HB.out hb)
      cases hq : eqA l.f0 a with
      | true =>
        rw [hq, if_pos rfl] at hd
        go_wp2
        go_ret
        have hv : idx ls a = x := by
          unfold idx
          rw [hd, ← hx]
          simp only [Option.map_some, Nat.zero_add]
        rw [hv]
        exact ⟨rfl, HB2.out⟩
      | false =>
        go_wp2
        go_roundg gk
        case measure => omega
        case rel => exact ⟨i + 1, by first | rw [hn] | exact congrArg _ (by omega), by omega, fun j m hj hm => by
          rcases Nat.lt_or_ge j i with q | q
          · exact hno j m q hm
          · obtain rfl : j = i := by omega
            rw [hget] at hm
            obtain rfl := Option.some.inj hm
            exact hq, HB2⟩
    · have hd : place ls a = none := place_none.2 (fun l hl e => by
        obtain ⟨j, hj⟩ := List.mem_iff_getElem?.1 hl
        have := (List.getElem?_eq_some_iff.1 hj).1
        have := hno j l (by omega) hj
        rw [eqA_iff.2 e] at this
        cases this)
      obtain ⟨x, hx⟩ : ∃ x : Int, (i : Int) = x := ⟨_, rfl⟩
      have b1 : decide (x < (ls.length : Int)) = false := decide_eq_false (by omega)
      have hv : idx ls a = -1 := by unfold idx; rw [hd]
      rw [hx]
      clear hd hno hx hi
      go_wp2
      go_ret
      rw [hv]
      exact ⟨rfl, HB.out⟩
set_option maxHeartbeats 1000000 in
set_option maxRecDepth 100000 in
theorem place_calls (w : World) (pb i : Nat) (v : Value) (ls : List Lo) (hrow : RL w v ls) (h8 : ls.length ≤ 8) (hc : w.cell? ⟨pb, i * 5 + 4, none⟩ = some v) (a : Ad) :
    Calls Try.prog 30 #[.pointer (some ⟨pb, i * 5, none⟩), .agg #[.bool a.f0, .int .u64 a.f1, .int .u64 a.f2]] w fun e w' => e = .returned (.int .i64 (idx ls a)) ∧ Below w.heap.size w w' := by
  obtain ⟨A, c, e, hC⟩ := RL.reads hrow
  subst e
  have hu25 := Try.underlying25
  have HB := Aside0.mk (Below.refl w.heap.size w)
  go_enter Try.func30, Try.ntmps30
  go_wp2_with (first | ((with_reducible refine gate_dst (N := 3) rfl ?_); refine sh_E 3 25 #[.bool a.f0, .int .u64 a.f1, .int .u64 a.f2] ?_; intro g hg w1 hbox hb; replace HB := sh_S HB hb; obtain ⟨c0, c1, c2⟩ := MBlk.c3 hbox; replace hc := pw_cell_below hb hc; replace hC := Kd.C_below hC hb; clear hbox hb hg) | fail)
  refine Calls.mono (index_calls _ A c g ls a hC h8 c0 c1 c2) ?_
  rintro e w2 ⟨rfl, hb⟩
  replace HB := sh_S HB hb
  clear hb
  go_wp2
  go_ret
  exact ⟨rfl, HB.out⟩
end Go.Proofs.Ytefbcigccfkkgaa.WIf
namespace Go.Proofs.Ytefbcigccfkkgaa.WIf
open Go.RowKit Go.Maps Go.WideMaps Go.Proofs.Ytefbcigccfkkgaa.PBase Go.Proofs.YtefbcigccfkkgaaW.PrintWords Go.Proofs.YtefbcigccfkkgaaW.PrintLast Go.Proofs.YtefbcigccfkkgaaW.PrintMore Go.Proofs.Ytefbcigccfkkgaa.If
attribute [local go_sem] max2_int min2_int max_two min_two
theorem mine_drop_ {st : St} {a : Ad} : ∀ {i : Nat}, (∀ j p, j < i → st[j]? = some p → place p.ls a = none) → mineN st a = (mineN (st.drop i) a).map (· + i) := by
  intro i
  induction i generalizing st with
  | zero => intro _; cases h : mineN st a <;> simp [h]
  | succ i ih =>
    intro h
    cases st with
    | nil => rfl
    | cons l r =>
      have h0 := h 0 l (by omega) rfl
      have := ih (st := r) (fun j m hj hm => h (j + 1) m (by omega) (by simpa using hm))
      rw [mine_cons, if_neg (by rw [h0]; decide), this, List.drop_succ_cons, Option.map_map]
      refine congrArg (fun f => Option.map f _) (funext fun x => ?_)
      simp only [Function.comp]; omega
section
variable {w : World} {S : Nat → Prop} {sb mb : Nat} {v : Value} {xs : List PS} {st : St}
set_option maxHeartbeats 1000000 in
set_option maxRecDepth 100000 in
theorem mine_calls (h : Mem w S sb mb v xs st) (h8 : st.length ≤ 8) (hls : ∀ p ∈ st, p.ls.length ≤ 8) (a : Ad) :
    Calls Try.prog 12 #[.pointer (some ⟨sb, 0, none⟩), .agg #[.bool a.f0, .int .u64 a.f1, .int .u64 a.f2]] w fun e w' => e = .returned (.int .i64 (mine st a)) ∧ Below w.heap.size w w' := by
  have hu25 := Try.underlying25
  have HB := Aside0.mk (Below.refl w.heap.size w)
  obtain ⟨A, c, ev⟩ := h.row.slice
  rw [h.len] at ev
  subst ev
  obtain ⟨s0, s1⟩ := MBlk.c2 h.blk
  go_enter Try.func12, Try.ntmps12
  go_wp2_with (first | ((with_reducible refine gate_dst (N := 3) rfl ?_); refine sh_E 3 25 #[.bool a.f0, .int .u64 a.f1, .int .u64 a.f2] ?_; intro g hg w1 hbox hb; replace HB := sh_S HB hb; have BK := Aside0.mk hbox; have HM := Aside0.mk (h.below hb); replace s0 := pw_cell_below hb s0; replace s1 := pw_cell_below hb s1; clear hbox hb hg) | fail)
  go_loopg [5, 11] st.length (fun kq v5 v11 w' => ∃ i : Nat, v11 = .int .i64 (i : Int) ∧ i + kq = st.length ∧ (∀ j p, j < i → st[j]? = some p → place p.ls a = none) ∧ Aside0 (Below w1.heap.size w1 w'))
  case atStart => exact ⟨0, rfl, by omega, fun j l hj => by omega, ⟨Below.refl _ _⟩⟩
  case round =>
    obtain ⟨i, rfl, hik, hno, HC⟩ := hrel
    by_cases hi : i < st.length
    · have HM2 := Aside0.mk (HM.out.below HC.out)
      obtain ⟨pb, c', e⟩ := HM.out.row.shape (by rw [HM.out.len]; omega)
      injection e with e1 e2 e3
      subst e1
      subst e3
      clear e2
      obtain ⟨p, hp⟩ : ∃ p, st[i]? = some p := ⟨_, List.getElem?_eq_getElem hi⟩
      obtain ⟨y, hy⟩ : ∃ y, xs[i]? = some y := ⟨_, List.getElem?_eq_getElem (by rw [h.len]; exact hi)⟩
      obtain ⟨_, hrl⟩ := HM2.out.like i p y hp hy
      have hcl := (HM2.out.row.cell hy (j := 4) rfl).1
      have r0 := pw_cell_below HC.out s0
      obtain ⟨c0, c1, c2⟩ := MBlk.c3 (blk_below BK.out HC.out)
      have hp8 := hls p (List.mem_of_getElem? hp)
      have hd := mine_drop_ hno
      rw [List.drop_eq_getElem_cons hi, show st[i] = p from Option.some.inj ((List.getElem?_eq_getElem hi).symm.trans hp), mine_cons] at hd
      obtain ⟨x, hx⟩ : ∃ x : Int, (i : Int) = x := ⟨_, rfl⟩
      have hxi : x.toNat = i := by omega
      rw [hx]
      have b1 : decide (x < (st.length : Int)) = true := decide_eq_true (by omega)
      have p1 : (0 ≤ x) = True := eq_true (by omega)
      have q1 : (x < (st.length : Int)) = True := eq_true (by omega)
      obtain ⟨gk, rfl⟩ : ∃ q, gk = q + 1 := ⟨gk - 1, by omega⟩
      have hpc := place_calls wr.drew pb i (sv y.l) p.ls (RL.keep hrl (fun _ _ => rfl)) hp8 (show wr.drew.cell? _ = _ from hcl) a
      obtain ⟨z, hz⟩ : ∃ z, idx p.ls a = z := ⟨_, rfl⟩
      rw [hz] at hpc
      have hcl2 : wr.cell? ⟨pb, x.toNat * 5 + 4, none⟩ = some (sv y.l) := by rw [hxi]; exact hcl
      go_wp2_with fail
      go_region_held3 (fun w2 => w2.cell? ⟨sb, 0, none⟩ = some (.slice (some ⟨pb, 0, none⟩) st.length c) ∧ w2.cell? ⟨g, 0, none⟩ = some (.bool a.f0) ∧ w2.cell? ⟨g, 1, none⟩ = some (.int .u64 a.f1) ∧ w2.cell? ⟨g, 2, none⟩ = some (.int .u64 a.f2) ∧ w2.cell? ⟨pb, x.toNat * 5 + 4, none⟩ = some (sv y.l) ∧ RL w2 (sv y.l) p.ls) (first | (exact ⟨r0, c0, c1, c2, hcl2, hrl⟩) | (exact ⟨pw_cell_below HD.out r0, pw_cell_below HD.out c0, pw_cell_below HD.out c1, pw_cell_below HD.out c2, pw_cell_below HD.out hcl2, RL.keep hrl (fun k hk => HD.out.block k (RL.lt hrl k hk))⟩) | (go_keep; done)) (first | (go_at_call 30; refine Calls.mono hpc ?_; rintro e w2 ⟨rfl, hb⟩; have HC2 := Aside0.mk (below_step (below_drew1 HC.out) hb); have HD := Aside0.mk (show Below wr.heap.size wr w2 from ⟨hb.os, hb.tape, hb.output, hb.size, hb.block⟩); clear hb) | fail)
      cases hq : place p.ls a with
      | some k =>
        have hzk : z = k := by rw [← hz]; unfold idx; rw [hq]
        have hix : decide (0 ≤ z) = true := decide_eq_true (by omega)
        clear hzk
        rw [hq, if_pos (show (some k).isSome = true from rfl)] at hd
        have hv : mine st a = x + 1 := by unfold mine num; rw [hd]; simp only [Option.map_some]; omega
        have hw : wrap64 (x + 1) = x + 1 := by unfold wrap64; omega
        simp only [hix]
        go_wp2
        go_ret
        rw [hv]
        exact ⟨by first | rfl | (rw [← hw]; rfl), below_then HB.out HB.out.size HC2.out⟩
      | none =>
        have hzk : z = -1 := by rw [← hz]; unfold idx; rw [hq]
        have hix : decide (0 ≤ z) = false := decide_eq_false (by omega)
        clear hzk
        have hix2 : (0 ≤ z) = False := eq_false (of_decide_eq_false hix)
        have hn : wrap64 (x + 1) = ((i + 1 : Nat) : Int) := by unfold wrap64; omega
        simp only [hix]
        go_wp2
        go_roundg gk
        case measure => omega
        case rel => exact ⟨i + 1, by first | rw [hn] | exact congrArg _ (by omega), by omega, fun j m hj hm => by
          rcases Nat.lt_or_ge j i with q | q
          · exact hno j m q hm
          · obtain rfl : j = i := by omega
            rw [hp] at hm
            obtain rfl := Option.some.inj hm
            exact hq, HC2⟩
    · have hd : mineN st a = none := mine_none.2 (fun p hp l hl e => by
        obtain ⟨j, hj⟩ := List.mem_iff_getElem?.1 hp
        have := (List.getElem?_eq_some_iff.1 hj).1
        exact place_none.1 (hno j p (by omega) hj) l hl e)
      have hv : mine st a = 0 := by unfold mine num; rw [hd]
      obtain ⟨x, hx⟩ : ∃ x : Int, (i : Int) = x := ⟨_, rfl⟩
      have b1 : decide (x < (st.length : Int)) = false := decide_eq_false (by omega)
      rw [hx]
      clear hd hno hx hi
      go_wp2
      go_ret
      rw [hv]
      exact ⟨rfl, below_then HB.out HB.out.size HC.out⟩
end
end Go.Proofs.Ytefbcigccfkkgaa.WIf
namespace Go.Proofs.Ytefbcigccfkkgaa.WIf
open Go.RowKit Go.Maps Go.WideMaps Go.Proofs.Ytefbcigccfkkgaa.PBase Go.Proofs.YtefbcigccfkkgaaW.PrintWords Go.Proofs.YtefbcigccfkkgaaW.PrintLast Go.Proofs.YtefbcigccfkkgaaW.PrintMore Go.Proofs.Ytefbcigccfkkgaa.If
attribute [local go_sem] max2_int min2_int max_two min_two
def okAt (s : ByteArray) (i : Nat) : Bool := low (bt s i) || (decide (0 < i) && dig (bt s i))
theorem nameB_of {s : ByteArray} (h : ∀ i, i < s.size → okAt s i = true) : nameB s = decide (1 ≤ s.size ∧ s.size ≤ 8) := by
  have : (List.range s.size).all (fun i => low (bt s i) || (decide (0 < i) && dig (bt s i))) = true := List.all_eq_true.2 (fun i hi => h i (List.mem_range.1 hi))
  unfold nameB; rw [this, Bool.and_true]
theorem nameB_not {s : ByteArray} {i : Nat} (hi : i < s.size) (h : okAt s i = false) : nameB s = false := by
  have : (List.range s.size).all (fun i => low (bt s i) || (decide (0 < i) && dig (bt s i))) = false := by
    rw [List.all_eq_false]
    exact ⟨i, List.mem_range.2 hi, by rw [show (low (bt s i) || (decide (0 < i) && dig (bt s i))) = okAt s i from rfl, h]; decide⟩
  unfold nameB; rw [this, Bool.and_false]
set_option maxHeartbeats 1000000 in
set_option maxRecDepth 100000 in
theorem name_calls (w : World) (s : ByteArray) (hs : s.size ≤ maxLen) :
    Calls Try.prog 45 #[.string s] w fun e w' => e = .returned (.bool (nameB s)) ∧ Below w.heap.size w w' := by
  go_enter Try.func45, Try.ntmps45
  go_wp2_with fail
  have HIT := Aside0.mk (World.iter_heap w s 0)
  have HB := Aside0.mk (show Below w.heap.size w (w.iter s 0) from below_alloc (Below.refl _ _) _)
  go_loopg [] (s.size + 1) (fun kq w' => ∃ (pos : Nat), Aside0 (pos + kq = s.size + 1) ∧ Aside0 (∀ i, i < pos → okAt s i = true) ∧ Aside0 (w'.heap[w.heap.size]? = some (.stringIter s pos)) ∧ Aside0 (Below w.heap.size w w'))
  case atStart => exact ⟨0, ⟨by omega⟩, ⟨fun i hi => by omega⟩, HIT, HB⟩
  case round =>
    clear HIT HB
    obtain ⟨pos, HP, HO, HIT, HB⟩ := hrel
    by_cases hp : pos < s.size
    · have hnx : ∀ ty, (Instr.next (.pointer (some ⟨w.heap.size, 0, none⟩)) true ty).run Try.prog wr = _ := fun ty => Lib.run_next_any_at wr w.heap.size s pos ty HIT.out hp
      have hpos : (pos : Int) ≤ 9223372036854775807 := by simp only [maxLen] at hs; omega
      obtain ⟨c, hc⟩ : ∃ c : Nat, (Utf8.decode s pos).1 = c := ⟨_, rfl⟩
      obtain ⟨b, hb⟩ : ∃ b : Nat, (s[pos]'hp).toNat = b := ⟨_, rfl⟩
      have hbt : bt s pos = (b : Int) := by
        rw [← bt_at s pos (by simpa using hp), ← hb]
        rfl
      have hb2 := hb
      have hlo : b < 128 → c = b ∧ (Utf8.decode s pos).2 = 1 := fun q => by
        have := decode_ascii s pos hp (by omega)
        rw [this] at hc
        rw [this]
        exact ⟨by rw [← hc]; exact hb, rfl⟩
      have hhi : 128 ≤ b → 128 ≤ c := fun q => by
        have := (decode_high s pos hp (by omega)).1
        omega
      obtain ⟨dn, hdn⟩ : ∃ dn, pos + (Utf8.decode s pos).2 = dn := ⟨_, rfl⟩
      have hlo2 : b < 128 → dn = pos + 1 := fun q => by rw [← hdn, (hlo q).2]
      have hlo1 : b < 128 → c = b := fun q => (hlo q).1
      rw [hc, hdn] at hnx
      have hle : c ≤ 2147483647 := by rw [← hc]; exact decode_le s pos
      have hok : okAt s pos = (decide (97 ≤ (b : Int) ∧ (b : Int) ≤ 122) || (decide (0 < pos) && decide (48 ≤ (b : Int) ∧ (b : Int) ≤ 57))) := by unfold okAt low dig; rw [hbt]
      have HH := Aside0.mk (show _ ∧ _ ∧ _ ∧ _ ∧ _ from ⟨hlo1, hlo2, hhi, hok, hp⟩)
      have HIT2 := Aside0.mk (Lib.iterAt_heap wr w.heap.size s pos dn HIT.out)
      have HB2 := Aside0.mk (Lib.below_iterAt HB.out (Nat.le_refl _) s dn)
      clear hok hlo1 hlo2 hhi hlo hb hb2 hdn hc hbt HIT HB hp
      by_cases hletter : 97 ≤ (c : Int) ∧ (c : Int) ≤ 122
      · obtain ⟨q1, q2⟩ := hletter
        obtain ⟨hlo1, hlo2, hhi, hok, hp⟩ := HH.out
        have hb : b < 128 := by omega
        have e1 := hlo1 hb
        have e2 := hlo2 hb
        have hok2 : okAt s pos = true := by rw [hok, decide_eq_true (⟨by omega, by omega⟩ : 97 ≤ (b : Int) ∧ (b : Int) ≤ 122)]; rfl
        have HK := Aside0.mk hok2
        have HE := Aside0.mk e2
        obtain ⟨gk, rfl⟩ : ∃ q, gk = q + 1 := ⟨gk - 1, by have := HP.out; omega⟩
        clear hok hok2 hlo1 hlo2 hhi e1 e2 hb HH hp
        go_wp2
        go_roundg gk
        case measure => omega
        case rel => exact ⟨dn, ⟨by have := HE.out; have := HP.out; omega⟩, ⟨fun i hi => by
          have := HE.out
          rcases Nat.lt_or_ge i pos with q | q
          · exact HO.out i q
          · obtain rfl : i = pos := by omega
            exact HK.out⟩, HIT2, HB2⟩
      · by_cases hdigit : 48 ≤ (c : Int) ∧ (c : Int) ≤ 57 ∧ 0 < (pos : Int)
        · obtain ⟨q1, q2, q3⟩ := hdigit
          have q4 : ¬ 97 ≤ (c : Int) := by omega
          obtain ⟨hlo1, hlo2, hhi, hok, hp⟩ := HH.out
          have hb : b < 128 := by omega
          have e1 := hlo1 hb
          have e2 := hlo2 hb
          have hok2 : okAt s pos = true := by rw [hok, decide_eq_true (⟨by omega, by omega⟩ : 48 ≤ (b : Int) ∧ (b : Int) ≤ 57), decide_eq_true (by omega : 0 < pos), Bool.and_self, Bool.or_true]
          have HK := Aside0.mk hok2
          have HE := Aside0.mk e2
          obtain ⟨gk, rfl⟩ : ∃ q, gk = q + 1 := ⟨gk - 1, by have := HP.out; omega⟩
          clear hok hok2 hlo1 hlo2 hhi e1 e2 hb HH hp hletter
          go_wp2
          go_roundg gk
          case measure => omega
          case rel => exact ⟨dn, ⟨by have := HE.out; have := HP.out; omega⟩, ⟨fun i hi => by
            have := HE.out
            rcases Nat.lt_or_ge i pos with q | q
            · exact HO.out i q
            · obtain rfl : i = pos := by omega
              exact HK.out⟩, HIT2, HB2⟩
        · obtain ⟨hlo1, hlo2, hhi, hok, hp⟩ := HH.out
          have hok2 : okAt s pos = false := by
            rw [hok]
            rcases Nat.lt_or_ge b 128 with q | q
            · have := hlo1 q
              subst this
              rw [decide_eq_false hletter]
              by_cases h0 : 0 < pos
              · rw [decide_eq_false (fun z => hdigit ⟨z.1, z.2, by omega⟩ : ¬ (48 ≤ (c : Int) ∧ (c : Int) ≤ 57)), Bool.and_false]; rfl
              · rw [decide_eq_false h0]; rfl
            · rw [decide_eq_false (by omega : ¬ (97 ≤ (b : Int) ∧ (b : Int) ≤ 122)), decide_eq_false (by omega : ¬ (48 ≤ (b : Int) ∧ (b : Int) ≤ 57)), Bool.and_false]; rfl
          have HN := Aside0.mk (nameB_not hp hok2)
          clear hok hok2 hlo1 hlo2 hhi HH hp
          by_cases c1 : 97 ≤ (c : Int)
          · have c2 : ¬ (c : Int) ≤ 122 := fun z => hletter ⟨c1, z⟩
            have c3 : ¬ (c : Int) ≤ 57 := by omega
            have c4 : 48 ≤ (c : Int) := by omega
            clear hletter hdigit
            by_cases c0 : 0 < (pos : Int)
            · go_wp2
              go_ret
              exact ⟨by rw [HN.out]; rfl, HB2.out⟩
            · go_wp2
              go_ret
              exact ⟨by rw [HN.out]; rfl, HB2.out⟩
          · clear hletter
            by_cases c0 : 0 < (pos : Int)
            · by_cases c2 : 48 ≤ (c : Int)
              · have c3 : ¬ (c : Int) ≤ 57 := fun z => hdigit ⟨c2, z, c0⟩
                clear hdigit
                go_wp2
                go_ret
                exact ⟨by rw [HN.out]; rfl, HB2.out⟩
              · clear hdigit
                go_wp2
                go_ret
                exact ⟨by rw [HN.out]; rfl, HB2.out⟩
            · clear hdigit
              go_wp2
              go_ret
              exact ⟨by rw [HN.out]; rfl, HB2.out⟩
    · have hnx : ∀ ty, (Instr.next (.pointer (some ⟨w.heap.size, 0, none⟩)) true ty).run Try.prog wr = _ := fun ty => Lib.run_next_end_at wr w.heap.size s pos ty HIT.out hp
      have hall := nameB_of (s := s) (fun i hi => HO.out i (by omega))
      have hl : (s.size : Int) ≤ 9223372036854775807 := by simp only [maxLen] at hs; omega
      have HN := Aside0.mk hall
      clear hall hp HP HO
      by_cases h0 : s = ⟨#[]⟩
      · subst h0
        go_wp2
        go_ret
        exact ⟨by rw [HN.out]; rfl, HB.out⟩
      · have h1 : 1 ≤ s.size := by
          rcases Nat.eq_zero_or_pos s.size with q | q
          · exact absurd (ByteArray.size_eq_zero_iff.1 q) h0
          · exact q
        have hE : s.toList.isEmpty = false := by
          rw [List.isEmpty_eq_false_iff]
          intro e
          rw [ByteArray.toList_eq] at e
          have := congrArg List.length e
          rw [data_length] at this
          simp only [List.length_nil] at this
          omega
        by_cases h8 : (s.size : Int) ≤ 8
        · have HD := Aside0.mk (decide_eq_true (⟨h1, by omega⟩ : 1 ≤ s.size ∧ s.size ≤ 8))
          clear hs h1
          go_wp2
          go_ret
          exact ⟨by rw [HN.out, HD.out]; rfl, HB.out⟩
        · have HD := Aside0.mk (decide_eq_false (by omega : ¬ (1 ≤ s.size ∧ s.size ≤ 8)))
          clear hs h1
          go_wp2
          go_ret
          exact ⟨by rw [HN.out, HD.out]; rfl, HB.out⟩
theorem RP_all {w : World} {v : Value} {xs : List PS} (h : RP w v xs) : Kd.R kP 66 w 0 (fun _ => True) v xs :=
  ⟨fun _ _ => trivial, h.2.imp_ (fun x cs hp => by obtain rfl := kP_openM hp; exact kP_mkM _ _ _ _)⟩
theorem named_snoc (st : St) (p : Pt) (s : ByteArray) : named (st ++ [p]) s = if (p.nm.toList == s.toList) = true ∧ named st s = 0 then (st.length : Int) + 1 else named st s := by
  unfold named
  rw [named_app]
  cases h : namedN st s with
  | some i =>
    simp only [num]
    exact (if_neg (fun z => by have h2 := z.2; omega)).symm
  | none =>
    by_cases c : (p.nm.toList == s.toList) = true
    · simp only [if_pos c, num]; simp [c]
    · simp only [if_neg c, num]; rw [if_neg (fun z => c z.1)]
theorem names_put {w' : World} {mb n : Nat} {D : DataW Unit} {st : St} {s : ByteArray} {p : Pt} (hp : p.nm = s) (h0 : named st s = 0) (hn : n ≤ st.length) (hD : ∀ s : ByteArray, D.atKey (.string s.data.toList) (.lit (.int .i64 0)) = .lit (.int .i64 (named st s)))
    (hm : IsMap D) (h : w'.ownsMap Try.prog 9 (plainElem Try.prog 3) mb (n + 1) (D.put (.string s.data.toList) (.lit (.int .i64 ((st.length : Int) + 1))))) : Names w' mb (st ++ [p]) := by
  refine ⟨n + 1, _, h, by rw [List.length_append]; simp only [List.length_cons, List.length_nil]; omega, fun s' => ?_⟩
  rw [named_snoc, hp]
  by_cases e : s = s'
  · subst e
    rw [atKey_put_same hm (show WideAt.IsKeyLit (.string s.data.toList) from True.intro), if_pos ⟨by simp, h0⟩]
  · have hne : s.data.toList ≠ s'.data.toList := fun q => e (Go.WideShapes.bytes_inj q)
    rw [atKey_put_other (fun q => hne (by injection q with q; exact q.symm)), hD s', if_neg]
    rintro ⟨q, _⟩
    rw [ByteArray.toList_eq, ByteArray.toList_eq] at q
    exact hne (by simpa using q)
theorem mem_added {w w' : World} {S : Nat → Prop} {sb mb : Nat} {v v1 : Value} {xs : List PS} {st : St} (h : Mem w S sb mb v xs st) {p : Pt} {x : PS} (hx : x.s = ⟨p.nm, p.mac, p.mtu, p.up⟩) (hl : x.l = ⟨none, 0, 0⟩) (hpl : p.ls = [])
    (hrow : RP w' v1 (xs ++ [x])) (hv1 : ∀ k, v1.ownBlock = some k → v.ownBlock = some k ∨ w.heap.size ≤ k) (hblk : w'.heap[sb]? = some (.cells #[v1, .map (some mb)] 71 (0, 0)))
    (hmap : Names w' mb (st ++ [p])) (hs : w.heap.size ≤ w'.heap.size) (hfr : ∀ k, k < w.heap.size → k ≠ sb → k ≠ mb → v.ownBlock ≠ some k → w'.heap[k]? = w.heap[k]?) :
    Mem w' (fun k => S k ∨ v1.ownBlock = some k) sb mb v1 (xs ++ [x]) (st ++ [p]) where
  blk := hblk
  row := hrow
  len := by rw [List.length_append, List.length_append, h.len]; rfl
  like := by
    intro i q y hq hy
    by_cases hi : i < st.length
    · rw [List.getElem?_append_left hi] at hq
      rw [List.getElem?_append_left (by rw [h.len]; exact hi)] at hy
      obtain ⟨l1, l2⟩ := h.like i q y hq hy
      refine ⟨l1, l2.keep (fun k hk => ?_)⟩
      obtain ⟨cs, hc⟩ := l2.typed k hk
      refine hfr k (l2.lt k hk) (fun e => ?_) (fun e => ?_) (fun e => ?_)
      · rw [e, h.blk] at hc; injection hc with hc; injection hc with _ hc; exact absurd hc (by decide)
      · obtain ⟨_, _, ⟨_, _, hb, _⟩, _⟩ := h.map
        rw [e, hb] at hc; cases hc
      · obtain ⟨cp, hcp⟩ := h.row.typed k e
        rw [hcp] at hc; injection hc with hc; injection hc with _ hc; exact absurd hc (by decide)
    · rw [List.getElem?_append_right (by omega)] at hq
      rw [List.getElem?_append_right (by rw [h.len]; omega)] at hy
      rw [List.mem_singleton.1 (List.mem_of_getElem? hq), List.mem_singleton.1 (List.mem_of_getElem? hy)]
      refine ⟨hx, ?_⟩
      rw [hl, hpl]
      exact RL.nil _
  sep := by
    intro i j y z hne hy hz k hk
    by_cases hi : i < xs.length
    · rw [List.getElem?_append_left hi] at hy
      by_cases hj : j < xs.length
      · rw [List.getElem?_append_left hj] at hz
        exact h.sep i j y z hne hy hz k hk
      · rw [List.getElem?_append_right (by omega)] at hz
        rw [List.mem_singleton.1 (List.mem_of_getElem? hz), hl]
        intro q; simp [sv, Value.ownBlock] at q
    · rw [List.getElem?_append_right (by omega)] at hy
      rw [List.mem_singleton.1 (List.mem_of_getElem? hy), hl] at hk
      simp [sv, Value.ownBlock] at hk
  map := hmap
  its := ⟨.inl h.its.1, .inl h.its.2.1, fun k hk => .inr hk, fun y hy k hk => by
    rcases List.mem_append.1 hy with q | q
    · exact .inl (h.its.2.2.2 y q k hk)
    · rw [List.mem_singleton.1 q, hl] at hk
      simp [sv, Value.ownBlock] at hk⟩
  lt := fun k hk => by
    rcases hk with q | q
    · exact Nat.lt_of_lt_of_le (h.lt k q) hs
    · exact hrow.lt k q
def Stepped (w w' : World) (S : Nat → Prop) (sb mb : Nat) (st : St) : Prop := ∃ S' v' xs', Mem w' S' sb mb v' xs' st ∧ (∀ k, S' k → S k ∨ w.heap.size ≤ k) ∧ Fr S w w'
theorem Stepped.same {w w' : World} {S : Nat → Prop} {sb mb : Nat} {v : Value} {xs : List PS} {st : St} (h : Mem w S sb mb v xs st) (hb : Below w.heap.size w w') : Stepped w w' S sb mb st :=
  ⟨S, v, xs, h.below hb, fun k hk => .inl hk, Fr.of_below hb⟩
section
variable {w : World} {S : Nat → Prop} {sb mb : Nat} {v : Value} {xs : List PS} {st : St}
set_option maxRecDepth 100000 in
theorem map_look (h : Mem w S sb mb v xs st) (s : ByteArray) (hs : s.size ≤ maxLen) : (Instr.lookup 69 (.map (some mb)) (.string s) false).run Try.prog w = .ok (.int .i64 (named st s)) w := by
  obtain ⟨n, D, hown, _, hD⟩ := h.map
  have zeroE : (zeroValue 3).run Try.prog w = .ok (.int .i64 0) w := by kernel_rfl
  obtain ⟨c, hrun, hat, _⟩ := hown.lookup_int keyed Try.underlying69 Try.underlying3 zeroE (keyOf_string_mk Try.underlying9 hs)
  rw [hD s] at hat
  have hc : c = named st s := by injection hat with q; injection q with _ q; exact q.symm
  rw [hrun, hc]
set_option maxHeartbeats 1000000 in
set_option maxRecDepth 100000 in
theorem add_bad (h : Mem w S sb mb v xs st) (s : ByteArray) (hs : s.size ≤ maxLen) (mac mtu : Int) (hn : nameB s = false) :
    Calls Try.prog 24 #[.pointer (some ⟨sb, 0, none⟩), .string s, .int .u64 mac, .int .i64 mtu] w fun e w' => e = .returned (.tuple #[.int .i64 0, .int .i64 130]) ∧ Below w.heap.size w w' := by
  have HM := Aside0.mk h
  clear h
  go_enter Try.func24, Try.ntmps24
  go_wp2_with fail
  refine Calls.mono (name_calls _ s hs) ?_
  rintro e w1 ⟨rfl, hb⟩
  rw [hn]
  have HB := Aside0.mk hb
  clear hb
  go_wp2
  go_ret2
  exact ⟨rfl, HB.out⟩
set_option maxHeartbeats 1000000 in
set_option maxRecDepth 100000 in
theorem add_taken (h : Mem w S sb mb v xs st) (s : ByteArray) (hs : s.size ≤ maxLen) (mac mtu : Int) (hn : nameB s = true) (hm : named st s ≠ 0) :
    Calls Try.prog 24 #[.pointer (some ⟨sb, 0, none⟩), .string s, .int .u64 mac, .int .i64 mtu] w fun e w' => e = .returned (.tuple #[.int .i64 0, .int .i64 130]) ∧ Below w.heap.size w w' := by
  have HM := Aside0.mk h
  clear h
  go_enter Try.func24, Try.ntmps24
  go_wp2_with fail
  refine Calls.mono (name_calls _ s hs) ?_
  rintro e w1 ⟨rfl, hb⟩
  rw [hn]
  have HB := Aside0.mk hb
  have hM1 := HM.out.below hb
  obtain ⟨x0, x1⟩ := MBlk.c2 hM1.blk
  have hlk := map_look hM1 s hs
  have hnb : (named st s == 0) = false := by simpa using hm
  obtain ⟨z, hz⟩ : ∃ z, named st s = z := ⟨_, rfl⟩
  rw [hz] at hlk hnb hm
  clear hb hM1 hz
  go_wp2
  go_ret2
  exact ⟨rfl, HB.out⟩
theorem and1u {n : Int} (h0 : 0 ≤ n) (h1 : n < 18446744073709551616) : bits .and .u64 n 1 = n % 2 := by
  have h127 : (BitVec.ofInt 64 1).toNat = 2 ^ 1 - 1 := by decide
  have key : (BitVec.ofInt 64 n &&& BitVec.ofInt 64 1).toNat = (n % ((2 ^ 64 : Nat) : Int)).toNat % 2 ^ 1 := by
    rw [BitVec.toNat_and, BitVec.toNat_ofInt, h127, Nat.and_two_pow_sub_one_eq_mod]
  show IntKind.u64.wrap ((BitVec.ofInt 64 n &&& BitVec.ofInt 64 1).toNat : Nat) = n % 2
  rw [key, IntWalk.u64_in _ (by omega)]
  omega
set_option maxHeartbeats 1000000 in
set_option maxRecDepth 100000 in
theorem add_arg (h : Mem w S sb mb v xs st) (s : ByteArray) (hs : s.size ≤ maxLen) (mac mtu : Int) (hn : nameB s = true) (hm : named st s = 0) (h0 : 0 ≤ mac) (h1 : mac < 18446744073709551616) (hbad : addBad mac mtu = true) :
    Calls Try.prog 24 #[.pointer (some ⟨sb, 0, none⟩), .string s, .int .u64 mac, .int .i64 mtu] w fun e w' => e = .returned (.tuple #[.int .i64 0, .int .i64 1]) ∧ Below w.heap.size w w' := by
  have HM := Aside0.mk h
  have HBAD := Aside0.mk hbad
  have hand := and1u (n := mac / 1099511627776) (by omega) (by omega)
  clear h hbad
  go_enter Try.func24, Try.ntmps24
  go_wp2_with fail
  refine Calls.mono (name_calls _ s hs) ?_
  rintro e w1 ⟨rfl, hb⟩
  rw [hn]
  have HB := Aside0.mk hb
  have hM1 := HM.out.below hb
  obtain ⟨x0, x1⟩ := MBlk.c2 hM1.blk
  have hlk := map_look hM1 s hs
  rw [hm] at hlk
  clear hb hM1 hm
  by_cases c1 : mac = 0
  · subst c1
    go_wp2
    go_ret2
    exact ⟨rfl, HB.out⟩
  have c1b : (mac == 0) = false := by simpa using c1
  by_cases c2 : 281474976710656 ≤ mac
  · go_wp2
    go_ret2
    exact ⟨rfl, HB.out⟩
  by_cases c3 : mac / 1099511627776 % 2 = 1
  · have c3b : (bits .and .u64 (mac / 1099511627776) 1 == 1) = true := by rw [hand, c3]; rfl
    clear hand c3
    go_wp2
    go_ret2
    exact ⟨rfl, HB.out⟩
  have c3b : (bits .and .u64 (mac / 1099511627776) 1 == 1) = false := by rw [hand]; simpa using c3
  clear hand
  by_cases c4 : mtu < 68
  · clear c3
    go_wp2
    go_ret2
    exact ⟨rfl, HB.out⟩
  have c5 : 1500 < mtu := by
    have := HBAD.out
    unfold addBad at this
    simp only [Bool.or_eq_true, beq_iff_eq, decide_eq_true_eq] at this
    omega
  clear c3
  go_wp2
  go_ret2
  exact ⟨rfl, HB.out⟩
theorem addBad_not {mac mtu : Int} (h : addBad mac mtu = false) : mac ≠ 0 ∧ mac < 281474976710656 ∧ mac / 1099511627776 % 2 ≠ 1 ∧ 68 ≤ mtu ∧ mtu ≤ 1500 := by
  unfold addBad at h
  simp only [Bool.or_eq_false_iff, beq_eq_false_iff_ne, decide_eq_false_iff_not] at h
  obtain ⟨⟨⟨⟨a, b⟩, c⟩, d⟩, e⟩ := h
  exact ⟨a, by omega, c, by omega, by omega⟩
set_option maxHeartbeats 1000000 in
set_option maxRecDepth 100000 in
theorem add_full (h : Mem w S sb mb v xs st) (s : ByteArray) (hs : s.size ≤ maxLen) (mac mtu : Int) (hn : nameB s = true) (hm : named st s = 0) (h0 : 0 ≤ mac) (h1 : mac < 18446744073709551616) (hbad : addBad mac mtu = false) (h8 : st.length = 8) :
    Calls Try.prog 24 #[.pointer (some ⟨sb, 0, none⟩), .string s, .int .u64 mac, .int .i64 mtu] w fun e w' => e = .returned (.tuple #[.int .i64 0, .int .i64 131]) ∧ Below w.heap.size w w' := by
  have HM := Aside0.mk h
  obtain ⟨c1, c2, c3, c4, c5⟩ := addBad_not hbad
  have c1b : (mac == 0) = false := by simpa using c1
  have c3b : (bits .and .u64 (mac / 1099511627776) 1 == 1) = false := by rw [and1u (n := mac / 1099511627776) (by omega) (by omega)]; simpa using c3
  obtain ⟨A, c, ev⟩ := h.row.slice
  rw [h.len, h8] at ev
  subst ev
  clear h hbad c3
  go_enter Try.func24, Try.ntmps24
  go_wp2_with fail
  refine Calls.mono (name_calls _ s hs) ?_
  rintro e w1 ⟨rfl, hb⟩
  rw [hn]
  have HB := Aside0.mk hb
  have hM1 := HM.out.below hb
  obtain ⟨x0, x1⟩ := MBlk.c2 hM1.blk
  have hlk := map_look hM1 s hs
  rw [hm] at hlk
  clear hb hM1 hm
  go_wp2
  go_ret2
  exact ⟨rfl, HB.out⟩
set_option maxHeartbeats 1000000 in
set_option maxRecDepth 100000 in
theorem add_done (h : Mem w S sb mb v xs st) (s : ByteArray) (hs : s.size ≤ maxLen) (mac mtu : Int) (hn : nameB s = true) (hm : named st s = 0) (h0 : 0 ≤ mac) (h1 : mac < 18446744073709551616) (hbad : addBad mac mtu = false) (h8 : st.length < 8) :
    Calls Try.prog 24 #[.pointer (some ⟨sb, 0, none⟩), .string s, .int .u64 mac, .int .i64 mtu] w fun e w' => e = .returned (.tuple #[.int .i64 ((st.length : Int) + 1), .int .i64 0]) ∧ Stepped w w' S sb mb (st ++ [⟨s, mac, mtu, false, []⟩]) := by
  have HM := Aside0.mk h
  obtain ⟨c1, c2, c3, c4, c5⟩ := addBad_not hbad
  have c1b : (mac == 0) = false := by simpa using c1
  have c3b : (bits .and .u64 (mac / 1099511627776) 1 == 1) = false := by rw [and1u (n := mac / 1099511627776) (by omega) (by omega)]; simpa using c3
  obtain ⟨A, c, ev⟩ := h.row.slice
  have hlen := h.len
  rw [h.len] at ev
  subst ev
  have h8b : ((st.length : Int) == 8) = false := by simpa using (by omega : ¬ (st.length : Int) = 8)
  clear h hbad c3
  go_enter Try.func24, Try.ntmps24
  go_wp2_with fail
  refine Calls.mono (name_calls _ s hs) ?_
  rintro e w1 ⟨rfl, hb⟩
  rw [hn]
  have HB := Aside0.mk hb
  have hM1 := HM.out.below hb
  have HM1 := Aside0.mk hM1
  obtain ⟨x0, x1⟩ := MBlk.c2 hM1.blk
  obtain ⟨f0, f1⟩ := MBlk.f2 hM1.blk
  have hlk := map_look hM1 s hs
  rw [hm] at hlk
  clear hb hM1
  have hsbl := HM1.out.lt sb HM1.out.its.1
  have hown : ∀ k, (Value.slice A st.length c).ownBlock = some k → k ≠ sb ∧ k ≠ mb := fun k hk => by
    obtain ⟨cs, hc⟩ := HM1.out.row.typed k hk
    refine ⟨fun e => ?_, fun e => ?_⟩
    · rw [e, HM1.out.blk] at hc; injection hc with hc; injection hc with _ hc; exact absurd hc (by decide)
    · obtain ⟨_, _, ⟨_, _, hb, _⟩, _⟩ := HM1.out.map
      rw [e, hb] at hc; cases hc
  have HOWN := Aside0.mk hown
  clear hown
  go_upto_region 8 with (first | ((with_reducible refine gate_builtin (b := .append) (xs := #[.tmp 55, .tmp 61]) rfl ?_); at_builtin; refine Kd.R_append kP (w0 := w1) 0 rfl (.tmp 55) (.tmp 61) 68 66 (.agg #[.string ⟨#[]⟩, .int .u64 0, .int .i64 0, .bool false, .slice none 0 0]) 64 rfl Try.underlying68 (by kernel_rfl) rfl (by decide) (by decide) (.slice A st.length c) xs ⟨⟨s, mac, mtu, false⟩, ⟨none, 0, 0⟩⟩ _ (fun _ => True) (fun _ => False) rfl rfl (kP_mkM _ _ _ _) (fun _ h => h.elim) (fun _ _ => trivial) (RP_all HM1.out.row) (Below.refl 0 w1) (Nat.zero_le _) (by rw [hlen]; omega) ?_; intro v1 w2 hR hb0 hg hat; have hrow := RP.of hR; obtain ⟨g, cg, ev1⟩ := hrow.shape (by simp); rw [List.length_append, hlen] at ev1; subst ev1; have HR := Aside0.mk hrow; have HG := Aside0.mk hg; have HAT := Aside0.mk hat; have hblk := (hg.block sb hsbl (fun e => (HOWN.out sb e.symm).1 rfl)).trans HM1.out.blk; have BK := Aside0.mk hblk; obtain ⟨y0, y1⟩ := MBlk.c2 hblk; obtain ⟨g0, g1⟩ := MBlk.f2 hblk; clear hR hb0 hg hat hrow hblk x0 x1 f0 f1 hlk) | fail)
  obtain ⟨u, hu⟩ : ∃ u, Value.slice (some ⟨g, 0, none⟩) (st.length + 1) cg = u := ⟨_, rfl⟩
  have hu0 := hu
  rw [hu]
  obtain ⟨w3, hw3⟩ : ∃ w3, w2.setCell ⟨sb, 0, none⟩ u = w3 := ⟨_, rfl⟩
  have hblk3 : w3.heap[sb]? = some (.cells #[u, .map (some mb)] 71 (0, 0)) := by rw [← hw3]; exact blk_put BK.out 0 _ rfl
  have far3 : ∀ k, k ≠ sb → w3.heap[k]? = w2.heap[k]? := fun k hk => by rw [← hw3]; exact Below.heap_setCell w2 _ _ k hk
  have hs3 : w3.heap.size = w2.heap.size := by rw [← hw3]; simp [World.setCell]
  have hfr3 : ∀ k, k < w1.heap.size → k ≠ sb → (Value.slice A st.length c).ownBlock ≠ some k → w3.heap[k]? = w1.heap[k]? := fun k h1 h2 h3 => (far3 k h2).trans (HG.out.block k h1 (fun e => h3 e.symm))
  have hos3 : w3.os = w1.os ∧ w3.tape = w1.tape ∧ w3.output = w1.output := by rw [← hw3]; exact ⟨HG.out.os, HG.out.tape, HG.out.output⟩
  rw [hw3]
  obtain ⟨n, D, hmown, hnl, hD⟩ := HM1.out.map
  have hmbs : mb ≠ sb := fun e => by
    obtain ⟨_, _, hb, _⟩ := hmown
    rw [e, HM1.out.blk] at hb; cases hb
  have hmbl := HM1.out.lt mb HM1.out.its.2.1
  have hmown3 : w3.ownsMap Try.prog 9 (plainElem Try.prog 3) mb n D := by
    obtain ⟨es, clock, hb, r⟩ := hmown
    exact ⟨es, clock, (hfr3 mb hmbl hmbs (fun e => (HOWN.out mb e).2 rfl)).trans hb, r⟩
  have hwf : (Lit.int .i64 ((st.length : Int) + 1)).wf = true := by
    show (decide ((-9223372036854775808 : Int) ≤ (st.length : Int) + 1) && decide ((st.length : Int) + 1 ≤ 9223372036854775807)) = true
    rw [decide_eq_true (by omega), decide_eq_true (by omega)]; rfl
  obtain ⟨w4, hrun, hmown4, hg4⟩ := (World.ownsMap.drew hmown3).update keyed Try.underlying69 (Nat.lt_of_le_of_lt hnl (Nat.lt_trans h8 (by unfold maxLen; omega))) (keyOf_string_mk Try.underlying9 hs) (plainElem_int (H := Unit) Try.underlying3 hwf)
  have hrun2 : (Instr.mapUpdate 69 (.map (some mb)) (.string s) (.int .i64 ((st.length : Int) + 1))).run Try.prog w3.drew = .ok () w4 := hrun
  have hblk4 : w4.heap[sb]? = some (.cells #[u, .map (some mb)] 71 (0, 0)) := (hg4.block sb (by show sb < w3.heap.size; rw [hs3]; have := HG.out.size; omega) (fun e => hmbs (Option.some.inj e).symm)).trans hblk3
  have hsz4 : w3.heap.size ≤ w4.heap.size := hg4.size
  have HFR := Aside0.mk (show ∀ k, k < w1.heap.size → k ≠ sb → k ≠ mb → (Value.slice A st.length c).ownBlock ≠ some k → w4.heap[k]? = w1.heap[k]? from fun k h1 h2 h3 h4 => (hg4.block k (by show k < w3.heap.size; rw [hs3]; have := HG.out.size; omega) (fun e => h3 (Option.some.inj e))).trans (hfr3 k h1 h2 h4))
  have HS4 := Aside0.mk (show w1.heap.size ≤ w4.heap.size by have := HG.out.size; omega)
  have HOS := Aside0.mk (show w4.os = w1.os ∧ w4.output = w1.output from ⟨hg4.os.trans hos3.1, hg4.output.trans hos3.2.2⟩)
  have htp : w4.tape = w1.tape := hg4.tape.trans hos3.2.1
  have hM4 : Mem w4 (fun k => S k ∨ u.ownBlock = some k) sb mb u (xs ++ [⟨⟨s, mac, mtu, false⟩, ⟨none, 0, 0⟩⟩]) (st ++ [⟨s, mac, mtu, false, []⟩]) := by
    refine mem_added HM1.out rfl rfl rfl ?_ ?_ hblk4 (names_put rfl hm hnl hD (World.ownsMap.isMap hmown) hmown4) HS4.out HFR.out
    · rw [← hu0]
      refine (RP.keep HR.out (fun k hk => ?_))
      have hkl := HR.out.lt k hk
      have hksb : k ≠ sb := fun e => by
        obtain ⟨cs, hc⟩ := HR.out.typed k hk
        rw [e, BK.out] at hc; injection hc with hc; injection hc with _ hc; exact absurd hc (by decide)
      have hkmb : k ≠ mb := fun e => by
        obtain ⟨cs, hc⟩ := HR.out.typed k hk
        obtain ⟨es, clock, hb, r⟩ := hmown3
        rw [far3 mb hmbs, ← e, hc] at hb; cases hb
      exact (hg4.block k (by show k < w3.heap.size; omega) (fun e => hkmb (Option.some.inj e))).trans (far3 k hksb)
    · intro k hk
      rw [← hu0] at hk
      rcases HAT.out with q | ⟨b, q, hq⟩
      · exact .inl (q ▸ hk)
      · have hk2 := Option.some.inj (q.symm.trans hk); exact .inr (by omega)
  have HM4 := Aside0.mk hM4
  have HST := Aside0.mk hu0
  have hats : u.ownBlock = (Value.slice A st.length c).ownBlock ∨ ∀ k, u.ownBlock = some k → w1.heap.size ≤ k := by
    rw [← hu0]
    rcases HAT.out with q | ⟨b, q, hq⟩
    · exact .inl q
    · exact .inr (fun k hk => by have hk2 := q.symm.trans hk; injection hk2 with hk2; omega)
  have HATS := Aside0.mk hats
  have HBK4 := Aside0.mk hblk4
  obtain ⟨x0, x1⟩ := MBlk.c2 hblk3
  obtain ⟨z0, z1⟩ := MBlk.c2 hblk4
  rw [← hu0] at x0 z0
  clear hw3
  have HTP := Aside0.mk htp
  clear htp hM4 hrun hblk3 far3 hs3 hfr3 hos3 hmown hnl hD hmbs hmbl hmown3 hwf hmown4 hg4 hblk4 hsz4 hats y0 y1 g0 g1 HR HG HAT BK hu0 hu
  have hcast : ((st.length + 1 : Nat) : Int) = (st.length : Int) + 1 := by omega
  go_region
  go_wp2
  go_ret2
  refine ⟨by first | rfl | rw [hcast], _, _, _, HM4.out, ?_, ?_⟩
  · intro k hk
    rcases hk with q | q
    · exact .inl q
    · rcases HATS.out with e | e
      · exact .inl (HM1.out.its.2.2.1 k (e.symm.trans q))
      · exact .inr (Nat.le_trans HB.out.size (e k q))
  · have hf1 : Fr S w w1 := Fr.of_below HB.out
    exact ⟨HOS.out.1.trans hf1.os, HTP.out.trans hf1.tape, HOS.out.2.trans hf1.output, Nat.le_trans hf1.size HS4.out, fun k hk hn => (HFR.out k (Nat.lt_of_lt_of_le hk hf1.size) (fun e => hn (e ▸ HM1.out.its.1)) (fun e => hn (e ▸ HM1.out.its.2.1)) (fun e => hn (HM1.out.its.2.2.1 k e))).trans (hf1.block k hk hn)⟩
theorem add_calls (h : Mem w S sb mb v xs st) (h8 : st.length ≤ 8) (s : ByteArray) (hs : s.size ≤ maxLen) (mac mtu : Int) (h0 : 0 ≤ mac) (h1 : mac < 18446744073709551616) :
    Calls Try.prog 24 #[.pointer (some ⟨sb, 0, none⟩), .string s, .int .u64 mac, .int .i64 mtu] w fun e w' => e = .returned (.tuple #[.int .i64 (add st s mac mtu).2.1, .int .i64 (add st s mac mtu).2.2]) ∧ Stepped w w' S sb mb (add st s mac mtu).1 := by
  cases hn : nameB s with
  | false =>
    have e : add st s mac mtu = (st, 0, 130) := by unfold add; rw [if_pos (.inl hn)]
    rw [e]
    exact Calls.mono (add_bad h s hs mac mtu hn) (fun _ _ q => ⟨q.1, Stepped.same h q.2⟩)
  | true =>
    by_cases hm : named st s = 0
    · have hno : ¬ (nameB s = false ∨ named st s ≠ 0) := by rw [hn, hm]; simp
      cases hbad : addBad mac mtu with
      | true =>
        have e : add st s mac mtu = (st, 0, 1) := by unfold add; rw [if_neg hno, if_pos hbad]
        rw [e]
        exact Calls.mono (add_arg h s hs mac mtu hn hm h0 h1 hbad) (fun _ _ q => ⟨q.1, Stepped.same h q.2⟩)
      | false =>
        by_cases h8b : st.length = 8
        · have e : add st s mac mtu = (st, 0, 131) := by unfold add; rw [if_neg hno, if_neg (by rw [hbad]; decide), if_pos h8b]
          rw [e]
          exact Calls.mono (add_full h s hs mac mtu hn hm h0 h1 hbad h8b) (fun _ _ q => ⟨q.1, Stepped.same h q.2⟩)
        · have e : add st s mac mtu = (st ++ [⟨s, mac, mtu, false, []⟩], (st.length : Int) + 1, 0) := by unfold add; rw [if_neg hno, if_neg (by rw [hbad]; decide), if_neg h8b]
          rw [e]
          exact add_done h s hs mac mtu hn hm h0 h1 hbad (by omega)
    · have e : add st s mac mtu = (st, 0, 130) := by unfold add; rw [if_pos (.inr hm)]
      rw [e]
      exact Calls.mono (add_taken h s hs mac mtu hn hm) (fun _ _ q => ⟨q.1, Stepped.same h q.2⟩)
end
end Go.Proofs.Ytefbcigccfkkgaa.WIf
namespace Go.Proofs.Ytefbcigccfkkgaa.WIf
open Go.RowKit Go.Maps Go.WideMaps Go.Proofs.Ytefbcigccfkkgaa.PBase Go.Proofs.YtefbcigccfkkgaaW.PrintWords Go.Proofs.YtefbcigccfkkgaaW.PrintLast Go.Proofs.YtefbcigccfkkgaaW.PrintMore Go.Proofs.Ytefbcigccfkkgaa.If
attribute [local go_sem] max2_int min2_int max_two min_two
theorem ite_ex {α : Type} {c : Prop} [Decidable c] {a b : Option α} (ha : ∃ r, a = some r) (hb : ∃ r, b = some r) : ∃ r, (if c then a else b) = some r := by split <;> assumption
theorem first_some (x n s : Int) (hs : s = 64 ∨ s = 32) : ∃ r, prefix_first.f x n s = some r := by
  unfold prefix_first.f
  rw [if_pos]
  · exact ⟨_, rfl⟩
  · unfold wrap64 mn mx
    rcases hs with rfl | rfl <;> (repeat split) <;> omega
theorem cut_some (t : Bool) (h l n : Int) : ∃ r, prefix_cut.f t h l n = some r := by
  unfold prefix_cut.f
  cases t with
  | true =>
    rw [if_pos rfl]
    obtain ⟨a, ha⟩ := first_some h n 64 (.inl rfl)
    obtain ⟨b, hb⟩ := first_some l (wrap64 (n - 64)) 64 (.inl rfl)
    rw [ha, hb]; exact ⟨_, rfl⟩
  | false =>
    rw [if_neg (by decide)]
    obtain ⟨a, ha⟩ := first_some l n 32 (.inr rfl)
    rw [ha]; exact ⟨_, rfl⟩
theorem valid_some (t : Bool) (h l : Int) : addr_Valid.f t h l = some (validB ⟨t, h, l⟩) := by
  unfold addr_Valid.f validB
  cases t with
  | true => rfl
  | false =>
    rw [if_neg (by decide)]
    by_cases c : h = 0
    · rw [if_pos c, c]; simp
    · rw [if_neg c]; simp [c]
theorem width_some (t : Bool) (h l : Int) : prefix_width.f t h l = some (if t = true then 128 else 32) := by
  unfold prefix_width.f; split <;> rfl
theorem of_some' (t : Bool) (h l n : Int) : ∃ r, prefix_Of.f t h l n = some r := by
  unfold prefix_Of.f
  rw [valid_some, width_some]
  obtain ⟨c, hc⟩ := cut_some t h l n
  simp only [Option.bind_some, hc]
  repeat (first | exact ⟨_, rfl⟩ | refine ite_ex ?_ ?_)
theorem class_some (t : Bool) (h l : Int) : ∃ r, addr_Class.f t h l = some r := by
  unfold addr_Class.f addr_classSix.f
  rw [valid_some]
  simp only [Option.bind_some, Option.bind_fun_some]
  repeat (first | exact ⟨_, rfl⟩ | refine ite_ex ?_ ?_)
theorem may_some (a : Ad) (bits : Int) : iface_may.f a.f0 a.f1 a.f2 bits = some (mayB a bits) := by
  have : ∃ r, iface_may.f a.f0 a.f1 a.f2 bits = some r := by
    unfold iface_may.f
    obtain ⟨c, hc⟩ := class_some a.f0 a.f1 a.f2
    obtain ⟨q, hq⟩ := of_some' a.f0 a.f1 a.f2 bits
    simp only [hc, hq, Option.bind_some]
    repeat (first | exact ⟨_, rfl⟩ | refine ite_ex ?_ ?_)
  obtain ⟨r, hr⟩ := this
  unfold mayB
  rw [hr]; rfl
theorem pvalid_some (t : Bool) (h l n : Int) : ∃ r, prefix_Valid.f t h l n = some r := by
  unfold prefix_Valid.f
  rw [valid_some, width_some]
  obtain ⟨c, hc⟩ := cut_some t h l n
  simp only [Option.bind_some, hc]
  repeat (first | exact ⟨_, rfl⟩ | refine ite_ex ?_ ?_)
theorem holds_some (t : Bool) (h l n : Int) (t' : Bool) (h' l' : Int) : ∃ r, prefix_Holds.f t h l n t' h' l' = some r := by
  unfold prefix_Holds.f
  rw [valid_some]
  obtain ⟨c, hc⟩ := cut_some t' h' l' n
  obtain ⟨q, hq⟩ := pvalid_some t h l n
  simp only [Option.bind_some, hc, hq]
  repeat (first | exact ⟨_, rfl⟩ | refine ite_ex ?_ ?_)
theorem modify_of {st : St} {i : Nat} {p : Pt} (hp : st[i]? = some p) (f g : Pt → Pt) (h : f p = g p) : st.modify i f = st.modify i g := by
  refine List.ext_getElem? (fun j => ?_)
  rw [mod_get, mod_get]
  split
  · rename_i e
    subst e
    rw [hp, Option.map_some, Option.map_some, h]
  · rfl
theorem mem_lset {w w' : World} {S : Nat → Prop} {sb mb : Nat} {v : Value} {xs : List PS} {st : St} (h : Mem w S sb mb v xs st) {pb n c i : Nat} (hv : v = .slice (some ⟨pb, 0, none⟩) n c) {p : Pt} {x : PS} (hp : st[i]? = some p) (hx : xs[i]? = some x) (l' : Sl) (ls' : List Lo)
    (hpb : w'.heap[pb]? = (w.setCell ⟨pb, i * 5 + 4, none⟩ (sv l')).heap[pb]?) (hl : RL w' (sv l') ls') (hat : ∀ k, (sv l').ownBlock = some k → (sv x.l).ownBlock = some k ∨ w.heap.size ≤ k)
    (hfr : ∀ k, k < w.heap.size → k ≠ pb → (sv x.l).ownBlock ≠ some k → w'.heap[k]? = w.heap[k]?) (hs : w.heap.size ≤ w'.heap.size) :
    Mem w' (fun k => S k ∨ (sv l').ownBlock = some k) sb mb v (xs.set i ⟨x.s, l'⟩) (st.modify i fun p => { p with ls := ls' }) := by
  have hvo : v.ownBlock = some pb := by rw [hv]; rfl
  obtain ⟨cp, hcp⟩ := h.row.typed pb hvo
  have hxl := h.like i p x hp hx
  have hi : i < xs.length := (List.getElem?_eq_some_iff.1 hx).1
  have hown : ∀ (k : Nat) (cs : Array Value) (t : Nat), w.heap[k]? = some (.cells cs t (0, 0)) → t ≠ 34 → (sv x.l).ownBlock ≠ some k := fun k cs t hk ht e => by
    obtain ⟨cs', hc⟩ := hxl.2.typed k e
    rw [hc] at hk
    injection hk with hk
    injection hk with _ hk
    exact ht hk.symm
  have hne : ∀ (k : Nat) (cs : Array Value) (t : Nat), w.heap[k]? = some (.cells cs t (0, 0)) → t ≠ 66 → k ≠ pb := fun k cs t hk ht e => by
    subst e
    rw [hcp] at hk
    injection hk with hk
    injection hk with _ hk
    exact ht hk.symm
  have hmbh : ∃ es clock, w.heap[mb]? = some (.map es clock) := by
    obtain ⟨_, _, ⟨es, clock, hb, _⟩, _⟩ := h.map
    exact ⟨es, clock, hb⟩
  have hmb1 : mb ≠ pb := fun e => by
    obtain ⟨es, clock, hb⟩ := hmbh
    rw [e, hcp] at hb
    cases hb
  have hmb2 : (sv x.l).ownBlock ≠ some mb := fun e => by
    obtain ⟨es, clock, hb⟩ := hmbh
    obtain ⟨cs', hc⟩ := hxl.2.typed mb e
    rw [hc] at hb
    cases hb
  have hset : ∀ (j : Nat) (y : PS), (xs.set i ⟨x.s, l'⟩)[j]? = some y → (j = i ∧ y = ⟨x.s, l'⟩) ∨ (j ≠ i ∧ xs[j]? = some y) := fun j y hy => by
    rw [List.getElem?_set] at hy
    by_cases e : i = j
    · subst e
      rw [if_pos rfl, if_pos hi] at hy
      exact .inl ⟨rfl, (Option.some.inj hy).symm⟩
    · rw [if_neg e] at hy
      exact .inr ⟨fun q => e q.symm, hy⟩
  have hlock : ∀ (j : Nat) (y : PS), xs[j]? = some y → ∀ k, (sv y.l).ownBlock = some k → k < w.heap.size ∧ k ≠ pb := fun j y hy k hk => by
    have hj : j < st.length := by rw [← h.len]; exact (List.getElem?_eq_some_iff.1 hy).1
    obtain ⟨_, l2⟩ := h.like j st[j] y (List.getElem?_eq_getElem hj) hy
    obtain ⟨cs, hc⟩ := l2.typed k hk
    exact ⟨l2.lt k hk, hne k cs _ hc (by decide)⟩
  refine ⟨(hfr sb (h.lt sb h.its.1) (hne sb _ _ h.blk (by decide)) (hown sb _ _ h.blk (by decide))).trans h.blk, ?_, by rw [List.length_set, List.length_modify]; exact h.len, ?_, ?_, ?_, ?_, ?_⟩
  · have hrs := RP.set (hv ▸ h.row) (x' := ⟨x.s, l'⟩) (u := sv l') hx (j := 4) (by decide) rfl
    rw [hv]
    exact hrs.keep (fun k hk => by obtain rfl : pb = k := Option.some.inj hk; exact hpb)
  · intro j q y hq hy
    rw [mod_get] at hq
    rcases hset j y hy with ⟨rfl, rfl⟩ | ⟨hj, hy2⟩
    · rw [if_pos rfl, hp] at hq
      obtain rfl := Option.some.inj hq
      exact ⟨hxl.1, hl⟩
    · rw [if_neg (fun e => hj e.symm)] at hq
      obtain ⟨l1, l2⟩ := h.like j q y hq hy2
      exact ⟨l1, l2.keep (fun k hk => hfr k (hlock j y hy2 k hk).1 (hlock j y hy2 k hk).2 (fun e => h.sep j i y x hj hy2 hx k hk e))⟩
  · intro j j' y y' hne' hy hy' k hk hk'
    rcases hset j y hy with ⟨rfl, rfl⟩ | ⟨hj, hy2⟩
    · rcases hset j' y' hy' with ⟨rfl, rfl⟩ | ⟨hj', hy2'⟩
      · exact hne' rfl
      · rcases hat k hk with q | q
        · exact h.sep j j' x y' hne' hx hy2' k q hk'
        · have := (hlock j' y' hy2' k hk').1
          omega
    · rcases hset j' y' hy' with ⟨rfl, rfl⟩ | ⟨hj', hy2'⟩
      · rcases hat k hk' with q | q
        · exact h.sep j j' y x hne' hy2 hx k hk q
        · have := (hlock j y hy2 k hk).1
          omega
      · exact h.sep j j' y y' hne' hy2 hy2' k hk hk'
  · refine (h.map.keep (hfr mb (h.lt mb h.its.2.1) hmb1 hmb2)).same (List.length_modify ..) (fun s => ?_)
    unfold named
    exact congrArg num (named_modify _ _ _ _ (fun _ => rfl))
  · refine ⟨.inl h.its.1, .inl h.its.2.1, fun k hk => .inl (h.its.2.2.1 k hk), fun y hy k hk => ?_⟩
    obtain ⟨j, hj⟩ := List.mem_iff_getElem?.1 hy
    rcases hset j y hj with ⟨rfl, rfl⟩ | ⟨_, hy2⟩
    · exact .inr hk
    · exact .inl (h.its.2.2.2 y (List.mem_of_getElem? hy2) k hk)
  · intro k hk
    rcases hk with q | q
    · exact Nat.lt_of_lt_of_le (h.lt k q) hs
    · exact hl.lt k q
section
variable {w : World} {S : Nat → Prop} {sb mb : Nat} {v : Value} {xs : List PS} {st : St}
set_option maxHeartbeats 1000000 in
set_option maxRecDepth 100000 in
theorem put_none (h : Mem w S sb mb v xs st) (h8 : st.length ≤ 8) (n : Int) (a : Ad) (bits : Int) (hn : at? st n = none) :
    Calls Try.prog 25 #[.pointer (some ⟨sb, 0, none⟩), .int .i64 n, .agg #[.bool a.f0, .int .u64 a.f1, .int .u64 a.f2], .int .i64 bits] w fun e w' => e = .returned (.int .i64 132) ∧ Below w.heap.size w w' := by
  have HB := Aside0.mk (Below.refl w.heap.size w)
  go_enter Try.func25, Try.ntmps25
  go_wp2_with (first | ((with_reducible refine gate_dst (N := 6) rfl ?_); refine sh_E 6 25 #[.bool a.f0, .int .u64 a.f1, .int .u64 a.f2] ?_; intro g hg w1 hbox hb; replace HB := sh_S HB hb; have HM := Aside0.mk (h.below hb); clear hbox hb hg) | fail)
  refine Calls.mono (of_none HM.out h8 n hn) ?_
  rintro e w' ⟨rfl, rfl⟩
  go_wp2
  go_ret
  exact ⟨rfl, HB.out⟩
set_option maxHeartbeats 1000000 in
set_option maxRecDepth 100000 in
theorem put_bad (h : Mem w S sb mb v xs st) (h8 : st.length ≤ 8) (hls : ∀ p ∈ st, p.ls.length ≤ 8) (n : Int) (a : Ad) (bits : Int) {i : Nat} (hn : at? st n = some i) (hbad : putBad st i a bits = true) :
    Calls Try.prog 25 #[.pointer (some ⟨sb, 0, none⟩), .int .i64 n, .agg #[.bool a.f0, .int .u64 a.f1, .int .u64 a.f2], .int .i64 bits] w fun e w' => e = .returned (.int .i64 133) ∧ Below w.heap.size w w' := by
  have HB := Aside0.mk (Below.refl w.heap.size w)
  obtain ⟨p, x, pb, c, hp, hx, hv, hS⟩ := at_get h hn
  obtain ⟨l1, _⟩ := h.like i p x hp hx
  have p2 := ((hv ▸ h.row).cell hx (j := 2) rfl).1
  rw [l1] at p2
  have HBAD := Aside0.mk (show mayB a bits = false ∨ mine st a ≠ 0 ∨ (a.f0 = true ∧ p.mtu < 1280) by
    unfold putBad at hbad
    rw [hp] at hbad
    simpa [or_assoc] using hbad)
  clear hbad
  have hmine := fun W (hW : Mem W S sb mb v xs st) => mine_calls hW h8 hls a
  have hmay := fun W => iface_may.calls a.f0 a.f1 a.f2 bits (mayB a bits) W (may_some a bits)
  go_enter Try.func25, Try.ntmps25
  go_wp2_with (first | ((with_reducible refine gate_dst (N := 6) rfl ?_); refine sh_E 6 25 #[.bool a.f0, .int .u64 a.f1, .int .u64 a.f2] ?_; intro g hg w1 hbox hb; replace HB := sh_S HB hb; have BK := Aside0.mk hbox; obtain ⟨c0, c1, c2⟩ := MBlk.c3 hbox; replace p2 := pw_cell_below hb p2; have HM := Aside0.mk (h.below hb); clear hbox hb hg) | fail)
  refine Calls.mono (of_some HM.out h8 n hn hv) ?_
  rintro e w' ⟨rfl, rfl⟩
  go_wp2_with fail
  refine Calls.mono (hmay _) ?_
  rintro e w2 ⟨rfl, hb⟩
  have HB2 := Aside0.mk (sh_S HB hb).out
  have HM2 := Aside0.mk (HM.out.below hb)
  replace c0 := pw_cell_below hb c0
  replace c1 := pw_cell_below hb c1
  replace c2 := pw_cell_below hb c2
  replace p2 := pw_cell_below hb p2
  clear hb
  cases hm : mayB a bits with
  | false =>
    go_wp2
    go_ret
    exact ⟨rfl, HB2.out⟩
  | true =>
    go_wp2_with fail
    refine Calls.mono (hmine _ HM2.out) ?_
    rintro e w3 ⟨rfl, hb⟩
    have HB3 := Aside0.mk (sh_S HB2 hb).out
    replace c0 := pw_cell_below hb c0
    replace p2 := pw_cell_below hb p2
    clear hb
    by_cases h0 : mine st a = 0
    · obtain ⟨z, hz⟩ : ∃ z, mine st a = z := ⟨_, rfl⟩
      have HX := Aside0.mk (show a.f0 = true ∧ p.mtu < 1280 by
        rcases HBAD.out with q | q | q
        · rw [hm] at q; cases q
        · exact absurd h0 q
        · exact q)
      rw [hz] at h0 ⊢
      subst h0
      obtain ⟨q1, q2⟩ := HX.out
      rw [q1] at c0
      clear hz
      go_wp2
      go_ret
      exact ⟨rfl, HB3.out⟩
    · have hnb : (mine st a == 0) = false := by simpa using h0
      obtain ⟨z, hz⟩ : ∃ z, mine st a = z := ⟨_, rfl⟩
      rw [hz] at h0 hnb ⊢
      clear hz
      go_wp2
      go_ret
      exact ⟨rfl, HB3.out⟩
theorem putBad_not {i : Nat} {a : Ad} {bits : Int} {p : Pt} (hp : st[i]? = some p) (h : putBad st i a bits = false) : mayB a bits = true ∧ mine st a = 0 ∧ (a.f0 = true → 1280 ≤ p.mtu) := by
  unfold putBad at h
  rw [hp] at h
  simp only [Option.map_some, Option.getD_some, Bool.or_eq_false_iff, Bool.and_eq_false_iff, beq_eq_false_iff_ne, bne_eq_false_iff_eq, decide_eq_false_iff_not, ne_eq, Bool.not_eq_false] at h
  refine ⟨h.1.1, h.1.2, fun q => ?_⟩
  rcases h.2 with z | z
  · rw [q] at z; cases z
  · omega
set_option maxHeartbeats 1000000 in
set_option maxRecDepth 100000 in
theorem put_full (h : Mem w S sb mb v xs st) (h8 : st.length ≤ 8) (hls : ∀ p ∈ st, p.ls.length ≤ 8) (n : Int) (a : Ad) (bits : Int) {i : Nat} (hn : at? st n = some i) (hbad : putBad st i a bits = false) {p : Pt} (hp : st[i]? = some p) (hfull : p.ls.length = 8) :
    Calls Try.prog 25 #[.pointer (some ⟨sb, 0, none⟩), .int .i64 n, .agg #[.bool a.f0, .int .u64 a.f1, .int .u64 a.f2], .int .i64 bits] w fun e w' => e = .returned (.int .i64 131) ∧ Below w.heap.size w w' := by
  have HB := Aside0.mk (Below.refl w.heap.size w)
  obtain ⟨p', x, pb, c, hp', hx, hv, hS⟩ := at_get h hn
  obtain rfl : p = p' := Option.some.inj (hp.symm.trans hp')
  obtain ⟨l1, l2⟩ := h.like i p x hp hx
  obtain ⟨hm, h0, hsix⟩ := putBad_not hp hbad
  have HSX := Aside0.mk hsix
  have p2 := ((hv ▸ h.row).cell hx (j := 2) rfl).1
  have p4 := ((hv ▸ h.row).cell hx (j := 4) rfl).1
  rw [l1] at p2
  obtain ⟨A, cl, el⟩ := l2.slice
  rw [el, hfull] at p4
  clear hbad hsix
  have hmine := fun W (hW : Mem W S sb mb v xs st) => mine_calls hW h8 hls a
  have hmay := fun W => iface_may.calls a.f0 a.f1 a.f2 bits (mayB a bits) W (may_some a bits)
  rw [hm] at hmay
  rw [h0] at hmine
  go_enter Try.func25, Try.ntmps25
  go_wp2_with (first | ((with_reducible refine gate_dst (N := 6) rfl ?_); refine sh_E 6 25 #[.bool a.f0, .int .u64 a.f1, .int .u64 a.f2] ?_; intro g hg w1 hbox hb; replace HB := sh_S HB hb; have BK := Aside0.mk hbox; obtain ⟨c0, c1, c2⟩ := MBlk.c3 hbox; replace p2 := pw_cell_below hb p2; replace p4 := pw_cell_below hb p4; have HM := Aside0.mk (h.below hb); clear hbox hb hg) | fail)
  refine Calls.mono (of_some HM.out h8 n hn hv) ?_
  rintro e w' ⟨rfl, rfl⟩
  go_wp2_with fail
  refine Calls.mono (hmay _) ?_
  rintro e w2 ⟨rfl, hb⟩
  have HB2 := Aside0.mk (sh_S HB hb).out
  have HM2 := Aside0.mk (HM.out.below hb)
  replace c0 := pw_cell_below hb c0
  replace c1 := pw_cell_below hb c1
  replace c2 := pw_cell_below hb c2
  replace p2 := pw_cell_below hb p2
  replace p4 := pw_cell_below hb p4
  clear hb
  go_wp2_with fail
  refine Calls.mono (hmine _ HM2.out) ?_
  rintro e w3 ⟨rfl, hb⟩
  have HB3 := Aside0.mk (sh_S HB2 hb).out
  replace c0 := pw_cell_below hb c0
  replace p2 := pw_cell_below hb p2
  replace p4 := pw_cell_below hb p4
  clear hb
  cases hs : a.f0 with
  | true =>
    have := HSX.out hs
    have hmt : decide (p.mtu < 1280) = false := decide_eq_false (by omega)
    rw [hs] at c0
    go_wp2
    go_ret
    exact ⟨rfl, HB3.out⟩
  | false =>
    rw [hs] at c0
    go_wp2
    go_ret
    exact ⟨rfl, HB3.out⟩
theorem put_fin {w0 w3 w4 : World} (hb : Below w0.heap.size w0 w3) (h : Mem w3 S sb mb v xs st) (hlt : ∀ k, S k → k < w0.heap.size) {pb n c i : Nat} (hv : v = .slice (some ⟨pb, 0, none⟩) n c) {p : Pt} {x : PS} (hp : st[i]? = some p) (hx : xs[i]? = some x) {A : Option Addr} {cl gg cap : Nat} (hel : sv x.l = .slice A p.ls.length cl)
    {inner : List Value} {ok : Nat → Prop} (hr : Reps (k34.M w3 0 ok) k34.sz p.ls inner) {a : Ad} {bits : Int} (b : Bool) (hb0 : a.f0 = b) (hown : w4.ownsRow 0 34 4 (.slice (some ⟨gg, 0, none⟩) (p.ls.length + 1) cap) (p.ls.length + 1) (inner ++ [.bool b, .int .u64 a.f1, .int .u64 a.f2, .int .i64 bits]))
    {o : Obj} (hg : (w3.alloc o).drew.grownBy w4 (Value.slice A p.ls.length cl).ownBlock) (hat : (Value.slice A p.ls.length cl).ownBlock = some gg ∨ gg = w3.heap.size + 1) :
    Stepped w0 (w4.setCell ⟨pb, i * 5 + 4, none⟩ (.slice (some ⟨gg, 0, none⟩) (p.ls.length + 1) cap)) S sb mb (st.modify i fun p => { p with ls := p.ls ++ [⟨a, bits⟩] }) := by
  subst hb0
  have hvo : v.ownBlock = some pb := by rw [hv]; rfl
  obtain ⟨cp, hcp⟩ := h.row.typed pb hvo
  have hpl := h.row.lt pb hvo
  have hl := (h.like i p x hp hx).2
  rw [hel] at hl
  have hpbo : (Value.slice A p.ls.length cl).ownBlock ≠ some pb := fun e => by
    obtain ⟨cs, hc⟩ := hl.typed pb e
    rw [hcp] at hc; injection hc with hc; injection hc with _ hc; exact absurd hc (by decide)
  have hF : ∀ k, k < w3.heap.size → (Value.slice A p.ls.length cl).ownBlock ≠ some k → w4.heap[k]? = w3.heap[k]? := fun k h1 h2 => (hg.block k (by show k < (w3.heap.push _).size; rw [Array.size_push]; omega) (fun e => h2 e.symm)).trans ((World.grownBy_alloc w3 _ none).block k h1 (by simp))
  have hsz : w3.heap.size ≤ w4.heap.size := by
    have h1 : (w3.heap.push o).size ≤ w4.heap.size := hg.size
    rw [Array.size_push] at h1
    omega
  have hggpb : gg ≠ pb := by
    rcases hat with q | q
    · exact fun e => hpbo (e ▸ q)
    · omega
  have hfar : ∀ k, k ≠ pb → (w4.setCell ⟨pb, i * 5 + 4, none⟩ (.slice (some ⟨gg, 0, none⟩) (p.ls.length + 1) cap)).heap[k]? = w4.heap[k]? := fun k hk => Below.heap_setCell w4 _ _ k hk
  have hss : (w4.setCell ⟨pb, i * 5 + 4, none⟩ (.slice (some ⟨gg, 0, none⟩) (p.ls.length + 1) cap)).heap.size = w4.heap.size := by simp [World.setCell]
  have hRL : RL w4 (.slice (some ⟨gg, 0, none⟩) (p.ls.length + 1) cap) (p.ls ++ [⟨a, bits⟩]) := by
    refine RL.of (base := 0) (ok := fun _ => True) ⟨fun _ _ => trivial, inner ++ [.bool a.f0, .int .u64 a.f1, .int .u64 a.f2, .int .i64 bits], ?_, ?_⟩
    · rw [List.length_append]
      exact hown
    · refine (Reps.snoc (hr.imp_ (fun y cs hq => ?_)) ?_ rfl)
      · obtain rfl := k34_openM hq
        exact k34_mkM _ _ _ _
      · exact k34_mkM w4 0 _ (⟨a, bits⟩ : Lo)
  have hm := mem_lset (w' := w4.setCell ⟨pb, i * 5 + 4, none⟩ (.slice (some ⟨gg, 0, none⟩) (p.ls.length + 1) cap)) h hv hp hx ⟨some ⟨gg, 0, none⟩, p.ls.length + 1, cap⟩ (p.ls ++ [⟨a, bits⟩]) ?_ ?_ ?_ ?_ ?_
  · rw [modify_of hp (fun p => { p with ls := p.ls ++ [⟨a, bits⟩] }) (fun q => { q with ls := p.ls ++ [⟨a, bits⟩] }) rfl]
    refine ⟨_, _, _, hm, ?_, ?_⟩
    · intro k hk
      rcases hk with q | q
      · exact .inl q
      · obtain rfl : gg = k := Option.some.inj q
        rcases hat with z | z
        · exact .inl (h.its.2.2.2 x (List.mem_of_getElem? hx) gg (by rw [hel]; exact z))
        · have := hb.size
          exact .inr (by omega)
    · refine ⟨(hg.os.trans rfl).trans hb.os, (hg.tape.trans rfl).trans hb.tape, (hg.output.trans rfl).trans hb.output, by have := hb.size; omega, fun k hk hn => ?_⟩
      have hb2 := hb.size
      exact ((hfar k (fun e => hn (e ▸ h.its.2.2.1 pb hvo))).trans (hF k (by omega) (fun e => hn (h.its.2.2.2 x (List.mem_of_getElem? hx) k (by rw [hel]; exact e))))).trans (hb.block k hk)
  · have h4 := (hF pb hpl hpbo).trans hcp
    rw [MReader.setCell_heap h4, MReader.setCell_heap hcp]
    rfl
  · exact hRL.keep (fun k hk => hfar k (by obtain rfl : gg = k := Option.some.inj hk; exact hggpb))
  · intro k hk
    obtain rfl : gg = k := Option.some.inj hk
    rcases hat with z | z
    · exact .inl (by rw [hel]; exact z)
    · exact .inr (by omega)
  · intro k h1 h2 h3
    exact (hfar k h2).trans (hF k h1 (by rw [← hel]; exact h3))
  · omega
set_option maxHeartbeats 1000000 in
set_option maxRecDepth 100000 in
theorem put_done (h : Mem w S sb mb v xs st) (h8 : st.length ≤ 8) (hls : ∀ p ∈ st, p.ls.length ≤ 8) (n : Int) (a : Ad) (bits : Int) {i : Nat} (hn : at? st n = some i) (hbad : putBad st i a bits = false) {p : Pt} (hp : st[i]? = some p) (hfull : p.ls.length < 8) :
    Calls Try.prog 25 #[.pointer (some ⟨sb, 0, none⟩), .int .i64 n, .agg #[.bool a.f0, .int .u64 a.f1, .int .u64 a.f2], .int .i64 bits] w fun e w' => e = .returned (.int .i64 0) ∧ Stepped w w' S sb mb (st.modify i fun p => { p with ls := p.ls ++ [⟨a, bits⟩] }) := by
  have HB := Aside0.mk (Below.refl w.heap.size w)
  obtain ⟨p', x, pb, c, hp', hx, hv, hS⟩ := at_get h hn
  obtain rfl : p = p' := Option.some.inj (hp.symm.trans hp')
  obtain ⟨l1, l2⟩ := h.like i p x hp hx
  obtain ⟨hm, h0, hsix⟩ := putBad_not hp hbad
  have HSX := Aside0.mk hsix
  have HSL := Aside0.mk h.lt
  have p2 := ((hv ▸ h.row).cell hx (j := 2) rfl).1
  obtain ⟨p4, f4⟩ := (hv ▸ h.row).cell hx (j := 4) rfl
  rw [l1] at p2
  obtain ⟨A, cl, el⟩ := l2.slice
  have HEL := Aside0.mk el
  rw [el] at p4
  have h8b : ((p.ls.length : Int) == 8) = false := by simpa using (by omega : ¬ (p.ls.length : Int) = 8)
  clear hbad hsix
  have hmine := fun W (hW : Mem W S sb mb v xs st) => mine_calls hW h8 hls a
  have hmay := fun W => iface_may.calls a.f0 a.f1 a.f2 bits (mayB a bits) W (may_some a bits)
  rw [hm] at hmay
  rw [h0] at hmine
  go_enter Try.func25, Try.ntmps25
  go_wp2_with (first | ((with_reducible refine gate_dst (N := 6) rfl ?_); refine sh_E 6 25 #[.bool a.f0, .int .u64 a.f1, .int .u64 a.f2] ?_; intro g hg w1 hbox hb; replace HB := sh_S HB hb; have BK := Aside0.mk hbox; obtain ⟨c0, c1, c2⟩ := MBlk.c3 hbox; replace p2 := pw_cell_below hb p2; replace p4 := pw_cell_below hb p4; have HM := Aside0.mk (h.below hb); clear hbox hb hg f4) | fail)
  refine Calls.mono (of_some HM.out h8 n hn hv) ?_
  rintro e w' ⟨rfl, rfl⟩
  go_wp2_with fail
  refine Calls.mono (hmay _) ?_
  rintro e w2 ⟨rfl, hb⟩
  have HB2 := Aside0.mk (sh_S HB hb).out
  have BK2 := Aside0.mk (blk_below BK.out hb)
  have HM2 := Aside0.mk (HM.out.below hb)
  replace c0 := pw_cell_below hb c0
  replace c1 := pw_cell_below hb c1
  replace c2 := pw_cell_below hb c2
  replace p2 := pw_cell_below hb p2
  replace p4 := pw_cell_below hb p4
  clear hb
  go_wp2_with fail
  refine Calls.mono (hmine _ HM2.out) ?_
  rintro e w3 ⟨rfl, hb⟩
  have HB3 := Aside0.mk (sh_S HB2 hb).out
  have BK3 := Aside0.mk (blk_below BK2.out hb)
  have HM3 := Aside0.mk (HM2.out.below hb)
  replace c0 := pw_cell_below hb c0
  replace c1 := pw_cell_below hb c1
  replace c2 := pw_cell_below hb c2
  replace p2 := pw_cell_below hb p2
  replace p4 := pw_cell_below hb p4
  clear hb HM2 HB2 HB HM BK BK2
  obtain ⟨f4, _⟩ : w3.frozen? ⟨pb, i * 5 + 4, none⟩ = false ∧ True := ⟨((hv ▸ HM3.out.row).cell hx (j := 4) rfl).2, trivial⟩
  have hl3 := (HM3.out.like i p x hp hx).2
  rw [el] at hl3
  obtain ⟨_, inner, hown, hreps⟩ := hl3
  have HOWN := Aside0.mk hown
  have HREPS := Aside0.mk hreps
  have HLT := Aside0.mk hfull
  clear el hown hreps hfull
  obtain ⟨i0, hi0, hz0, hz1, hz2⟩ := info_parts (show (Try.prog.info? 34).map (fun i => (i.zero, i.size, i.bytes)) = some (some (.agg #[.bool false, .int .u64 0, .int .u64 0, .int .i64 0]), 4, 32) by kernel_rfl)
  have hnw := Aside0.mk (World.news_of_block (w := w3.alloc (.cells #[.bool a.f0, .int .u64 a.f1, .int .u64 a.f2, .int .i64 bits] 34)) (cs := #[.bool a.f0, .int .u64 a.f1, .int .u64 a.f2, .int .i64 bits]) (t := 34) (fr := (0, 0)) (heap_alloc_new w3 _))
  have hn2 := Aside0.mk (show p.ls.length + 1 ≤ maxLen by have := HLT.out; unfold maxLen; omega)
  have hn3 := Aside0.mk (show (p.ls.length + 1) * 32 ≤ 140737488355328 by have := HLT.out; omega)
  have hpbo : (Value.slice A p.ls.length cl).ownBlock ≠ some pb := fun e => by
    obtain ⟨cs, hc⟩ := own_typed HOWN.out pb e
    obtain ⟨cp, hcp⟩ := HM3.out.row.typed pb (by rw [hv]; rfl)
    rw [hcp] at hc; injection hc with hc; injection hc with _ hc; exact absurd hc (by decide)
  have HPB := Aside0.mk hpbo
  have hpbl := HM3.out.lt pb hS
  have hgo : (Value.slice A p.ls.length cl).ownBlock ≠ some g := fun e => by
    obtain ⟨cs, hc⟩ := own_typed HOWN.out g e
    rw [BK3.out] at hc; injection hc with hc; injection hc with _ hc; exact absurd hc (by decide)
  have hgl := blk_lt BK3.out
  have HFS := Aside0.mk (show pb < w3.heap.size ∧ g < w3.heap.size ∧ (Value.slice A p.ls.length cl).ownBlock ≠ some pb ∧ (Value.slice A p.ls.length cl).ownBlock ≠ some g from ⟨hpbl, hgl, hpbo, hgo⟩)
  clear hpbl hgl hpbo hgo
  have hsix2 : a.f0 = false ∨ (a.f0 = true ∧ decide (p.mtu < 1280) = false) := by
    cases hs : a.f0 with
    | false => exact .inl rfl
    | true => exact .inr ⟨rfl, decide_eq_false (by have := HSX.out hs; omega)⟩
  have hne1 := World.new_ne w3 _ p4
  have p4a : ∀ o, (w3.drew.alloc o).cell? ⟨pb, i * 5 + 4, none⟩ = some (.slice A p.ls.length cl) := fun o => (World.cell?_alloc_some _ _ _ (by first | (rw [show w3.drew.cell? _ = _ from p4]; rfl) | (rw [p4]; rfl))).trans p4
  have p4b : ∀ o, (w3.alloc o).cell? ⟨pb, i * 5 + 4, none⟩ = some (.slice A p.ls.length cl) := fun o => (World.cell?_alloc_some _ _ _ (by first | (rw [show w3.drew.cell? _ = _ from p4]; rfl) | (rw [p4]; rfl))).trans p4
  rcases hsix2 with hs | ⟨hs, hmt⟩
  · rw [hs] at c0 hnw
    go_upto_region 8 with (fail)
    go_region_law (refine step_append_lies _ (by rfl) _ _ _ (by rfl) 0 34 i0 _ 4 32 Try.underlying31 hi0 hz0 hz1 hz2 rfl (by omega) _ p.ls.length _ (by rfl) ((HOWN.out.alloc _).drew) ⟨w3.heap.size, 0, none⟩ 1 1 _ (by rfl) (by rfl) hnw.out (by simp [Value.oneCell']) (by omega) hn2.out hn3.out (Nat.zero_le _) (w3.heap.size + 1) (by simp) ?_; intro gg cap w4 hown1 hgrow hat hlt; have HF4 := Aside0.mk (show ∀ k, k < w3.heap.size → (Value.slice A p.ls.length cl).ownBlock ≠ some k → w4.heap[k]? = w3.heap[k]? from fun k h1 h2 => (hgrow.block k (by simp; omega) (fun e => h2 e.symm)).trans ((World.grownBy_alloc w3 _ none).block k h1 (by simp))); have cw4 := (World.cell?_of_block (a := ⟨pb, i * 5 + 4, none⟩) (HF4.out pb HFS.out.1 HFS.out.2.2.1)).trans p4; have fw4 := (World.frozen?_of_block (a := ⟨pb, i * 5 + 4, none⟩) (HF4.out pb HFS.out.1 HFS.out.2.2.1)).trans f4; have HOW := Aside0.mk hown1; have HGR := Aside0.mk hgrow; have HAT := Aside0.mk hat; clear hown1 hgrow hat)
    all_goals (go_wp2; go_ret; exact ⟨rfl, put_fin HB3.out HM3.out HSL.out hv hp hx HEL.out HREPS.out _ hs HOW.out HGR.out HAT.out⟩)
  · rw [hs] at c0 hnw
    go_upto_region 8 with (fail)
    go_region_law (refine step_append_lies _ (by rfl) _ _ _ (by rfl) 0 34 i0 _ 4 32 Try.underlying31 hi0 hz0 hz1 hz2 rfl (by omega) _ p.ls.length _ (by rfl) ((HOWN.out.alloc _).drew) ⟨w3.heap.size, 0, none⟩ 1 1 _ (by rfl) (by rfl) hnw.out (by simp [Value.oneCell']) (by omega) hn2.out hn3.out (Nat.zero_le _) (w3.heap.size + 1) (by simp) ?_; intro gg cap w4 hown1 hgrow hat hlt; have HF4 := Aside0.mk (show ∀ k, k < w3.heap.size → (Value.slice A p.ls.length cl).ownBlock ≠ some k → w4.heap[k]? = w3.heap[k]? from fun k h1 h2 => (hgrow.block k (by simp; omega) (fun e => h2 e.symm)).trans ((World.grownBy_alloc w3 _ none).block k h1 (by simp))); have cw4 := (World.cell?_of_block (a := ⟨pb, i * 5 + 4, none⟩) (HF4.out pb HFS.out.1 HFS.out.2.2.1)).trans p4; have fw4 := (World.frozen?_of_block (a := ⟨pb, i * 5 + 4, none⟩) (HF4.out pb HFS.out.1 HFS.out.2.2.1)).trans f4; have HOW := Aside0.mk hown1; have HGR := Aside0.mk hgrow; have HAT := Aside0.mk hat; clear hown1 hgrow hat)
    all_goals (go_wp2; go_ret; exact ⟨rfl, put_fin HB3.out HM3.out HSL.out hv hp hx HEL.out HREPS.out _ hs HOW.out HGR.out HAT.out⟩)
theorem put_calls (h : Mem w S sb mb v xs st) (h8 : st.length ≤ 8) (hls : ∀ p ∈ st, p.ls.length ≤ 8) (n : Int) (a : Ad) (bits : Int) :
    Calls Try.prog 25 #[.pointer (some ⟨sb, 0, none⟩), .int .i64 n, .agg #[.bool a.f0, .int .u64 a.f1, .int .u64 a.f2], .int .i64 bits] w fun e w' => e = .returned (.int .i64 (put st n a bits).2) ∧ Stepped w w' S sb mb (put st n a bits).1 := by
  cases hn : at? st n with
  | none =>
    have e : put st n a bits = (st, 132) := by unfold put; rw [hn]
    rw [e]
    exact Calls.mono (put_none h h8 n a bits hn) (fun _ _ q => ⟨q.1, Stepped.same h q.2⟩)
  | some i =>
    obtain ⟨p, x, pb, c, hp, hx, hv, hS⟩ := at_get h hn
    cases hbad : putBad st i a bits with
    | true =>
      have e : put st n a bits = (st, 133) := by unfold put; rw [hn]; simp only; rw [if_pos hbad]
      rw [e]
      exact Calls.mono (put_bad h h8 hls n a bits hn hbad) (fun _ _ q => ⟨q.1, Stepped.same h q.2⟩)
    | false =>
      have hnb : ¬ putBad st i a bits = true := by rw [hbad]; decide
      have hl : (st[i]?.map (·.ls.length)).getD 0 = p.ls.length := by rw [hp]; rfl
      have h88 := hls p (List.mem_of_getElem? hp)
      by_cases h8b : p.ls.length = 8
      · have e : put st n a bits = (st, 131) := by unfold put; rw [hn]; simp only; rw [if_neg hnb, if_pos (by rw [hl]; exact h8b)]
        rw [e]
        exact Calls.mono (put_full h h8 hls n a bits hn hbad hp h8b) (fun _ _ q => ⟨q.1, Stepped.same h q.2⟩)
      · have e : put st n a bits = (st.modify i fun p => { p with ls := p.ls ++ [⟨a, bits⟩] }, 0) := by unfold put; rw [hn]; simp only; rw [if_neg hnb, if_neg (by rw [hl]; exact h8b)]
        rw [e]
        exact put_done h h8 hls n a bits hn hbad hp (by omega)
end
end Go.Proofs.Ytefbcigccfkkgaa.WIf
