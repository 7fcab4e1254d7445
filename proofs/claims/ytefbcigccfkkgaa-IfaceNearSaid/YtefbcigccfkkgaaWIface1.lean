/-
  The calls of a set of ports in memory, first part. Conditions: those of each theorem.
-/
import Derived.Test.YtefbcigccfkkgaaMIface
import Derived.Test.YtefbcigccfkkgaaMStr
import Derived.Test.YtefbcigccfkkgaaMCopy
import Derived.Test.YtefbcigccfkkgaaPBasex1
import Derived.Test.YtefbcigccfkkgaaMShort
import Derived.Outline
import Derived.Deep.QuietTactic
import Derived.BigQuiet
import Derived.Deep.RegionHeld3
import Derived.StillTailTactics
import Derived.WalkMore
import Derived.WalkSmall
import Derived.WalkSpells
import Derived.StringKeys
set_option linter.unusedVariables false
set_option linter.unusedSimpArgs false
namespace Go.Proofs.Ytefbcigccfkkgaa.WIf
open Go.RowKit Go.Maps Go.WideMaps Go.Proofs.Ytefbcigccfkkgaa.PBase Go.Proofs.YtefbcigccfkkgaaW.PrintWords Go.Proofs.YtefbcigccfkkgaaW.PrintLast Go.Proofs.YtefbcigccfkkgaaW.PrintMore Go.Proofs.Ytefbcigccfkkgaa.If
attribute [local go_sem] max2_int min2_int max_two min_two
section
variable {w : World} {S : Nat → Prop} {sb mb : Nat} {v : Value} {xs : List PS} {st : St}
set_option maxHeartbeats 1000000 in
set_option maxRecDepth 100000 in
theorem of_none (h : Mem w S sb mb v xs st) (h8 : st.length ≤ 8) (n : Int) (hn : at? st n = none) :
    Calls Try.prog 26 #[.pointer (some ⟨sb, 0, none⟩), .int .i64 n] w fun e w' => e = .returned (.pointer none) ∧ w = w' := by
  have hb := MBlk.c2 h.blk
  obtain ⟨A, c, e⟩ := h.row.slice
  rw [h.len] at e
  subst e
  obtain ⟨x0, x1⟩ := hb
  have hd : n < 1 ∨ n > st.length := by
    unfold at? at hn
    split at hn
    · assumption
    · cases hn
  clear h hn
  by_cases h1 : n < 1
  · have h2 : decide (n < 1) = true := decide_eq_true h1
    clear h1 hd
    go_enter Try.func26, Try.ntmps26
    go_wp2
    go_ret
    exact ⟨rfl, rfl⟩
  · have h2 : decide (n < 1) = false := decide_eq_false h1
    have h3 : decide ((st.length : Int) < n) = true := decide_eq_true (by omega)
    clear h1 hd
    go_enter Try.func26, Try.ntmps26
    go_wp2
    go_ret
    exact ⟨rfl, rfl⟩
set_option maxHeartbeats 1000000 in
set_option maxRecDepth 100000 in
theorem of_some (h : Mem w S sb mb v xs st) (h8 : st.length ≤ 8) (n : Int) {i : Nat} (hn : at? st n = some i) {pb c : Nat} (hv : v = .slice (some ⟨pb, 0, none⟩) st.length c) :
    Calls Try.prog 26 #[.pointer (some ⟨sb, 0, none⟩), .int .i64 n] w fun e w' => e = .returned (.pointer (some ⟨pb, i * 5, none⟩)) ∧ w = w' := by
  obtain ⟨x0, x1⟩ := MBlk.c2 h.blk
  subst hv
  obtain ⟨hi, rfl⟩ := at_lt hn
  have h2 : decide (((i : Int) + 1) < 1) = false := decide_eq_false (by omega)
  have h3 : decide ((st.length : Int) < ((i : Int) + 1)) = false := decide_eq_false (by omega)
  have h4 : wrap64 ((i : Int) + 1 - 1) = (i : Int) := by unfold wrap64; omega
  have h5 : (0 ≤ (i : Int)) = True := eq_true (by omega)
  have h6 : ((i : Int) < (st.length : Int)) = True := eq_true (by omega)
  clear h hn
  obtain ⟨x, hx⟩ : ∃ x : Int, (i : Int) + 1 = x := ⟨_, rfl⟩
  obtain ⟨y, hy⟩ : ∃ y : Int, (i : Int) = y := ⟨_, rfl⟩
  have hyi : y.toNat = i := by omega
  rw [hx] at h2 h3 h4 ⊢
  rw [hy] at h4 h5 h6
  clear hx hy hi
  go_enter Try.func26, Try.ntmps26
  go_wp2
  go_ret
  exact ⟨rfl, rfl⟩
theorem at_get (h : Mem w S sb mb v xs st) {n : Int} {i : Nat} (hn : at? st n = some i) : ∃ p x pb c, st[i]? = some p ∧ xs[i]? = some x ∧ v = .slice (some ⟨pb, 0, none⟩) st.length c ∧ S pb := by
  obtain ⟨hi, _⟩ := at_lt hn
  have hl := h.len
  obtain ⟨pb, c, e⟩ := h.row.shape (by omega)
  rw [hl] at e
  exact ⟨_, _, pb, c, List.getElem?_eq_getElem hi, List.getElem?_eq_getElem (by omega), e, h.its.2.2.1 pb (by rw [e]; rfl)⟩
set_option maxHeartbeats 1000000 in
set_option maxRecDepth 100000 in
theorem turn_calls (h : Mem w S sb mb v xs st) (h8 : st.length ≤ 8) (n : Int) (up : Bool) :
    Calls Try.prog 21 #[.pointer (some ⟨sb, 0, none⟩), .int .i64 n, .bool up] w fun e w' => e = .returned (.int .i64 (turn st n up).2) ∧ (∃ xs', Mem w' S sb mb v xs' (turn st n up).1) ∧ Fr S w w' := by
  cases hn : at? st n with
  | none =>
    have e : turn st n up = (st, 132) := by unfold turn; rw [hn]
    rw [e]
    go_enter Try.func21, Try.ntmps21
    go_wp2_with fail
    refine Calls.mono (of_none h h8 n hn) ?_
    rintro e w' ⟨rfl, rfl⟩
    go_wp2
    go_ret
    exact ⟨rfl, ⟨_, h⟩, Fr.refl _ _⟩
  | some i =>
    have e : turn st n up = (st.modify i fun p => { p with up := up }, 0) := by unfold turn; rw [hn]
    rw [e]
    obtain ⟨p, x, pb, c, hp, hx, hv, hS⟩ := at_get h hn
    obtain ⟨hc, hf⟩ := (hv ▸ h.row).cell hx (j := 3) rfl
    have hm := h.setUp hv hp hx up
    have hof := of_some h h8 n hn hv
    clear h e hp hx hn hv
    go_enter Try.func21, Try.ntmps21
    go_wp2_with fail
    refine Calls.mono hof ?_
    rintro e w' ⟨rfl, rfl⟩
    go_wp2
    go_ret
    exact ⟨rfl, ⟨_, hm⟩, Fr.set _ _ _ _ hS⟩
def portR (st : St) (n : Int) : S50 × Bool := match at? st n with | none => (z50, false) | some i => match st[i]? with | none => (z50, false) | some p => (⟨p.nm, p.mac, p.mtu, p.up⟩, true)
theorem put4 {w : World} {g t : Nat} {a0 a1 a2 a3 b0 b1 b2 b3 : Value} (h : w.heap[g]? = some (.cells #[a0, a1, a2, a3] t (0, 0))) : ((((w.setCell ⟨g, 0, none⟩ b0).setCell ⟨g, 1, none⟩ b1).setCell ⟨g, 2, none⟩ b2).setCell ⟨g, 3, none⟩ b3).heap[g]? = some (.cells #[b0, b1, b2, b3] t (0, 0)) :=
  blk_put (blk_put (blk_put (blk_put h 0 b0 rfl) 1 b1 rfl) 2 b2 rfl) 3 b3 rfl
set_option maxHeartbeats 1000000 in
set_option maxRecDepth 100000 in
theorem port_calls (h : Mem w S sb mb v xs st) (h8 : st.length ≤ 8) (n : Int) :
    Calls Try.prog 18 #[.pointer (some ⟨sb, 0, none⟩), .int .i64 n] w fun e w' => e = .returned (.tuple #[.agg #[.string (portR st n).1.f0, .int .u64 (portR st n).1.f1, .int .i64 (portR st n).1.f2, .bool (portR st n).1.f3], .bool (portR st n).2]) ∧ Below w.heap.size w w' := by
  have hu50 := Try.underlying50
  have HB := Aside0.mk (Below.refl w.heap.size w)
  cases hn : at? st n with
  | none =>
    have e : portR st n = (z50, false) := by unfold portR; rw [hn]
    rw [e]
    go_enter Try.func18, Try.ntmps18
    go_wp2_with (first | ((with_reducible refine gate_dst (N := 4) rfl ?_); refine sh_E 4 50 #[.string (⟨#[]⟩ : ByteArray), .int .u64 0, .int .i64 0, .bool false] ?_; intro g hg w1 hbox hb; have BK := Aside0.mk hbox; have GE := sh_G HB hg; replace HB := sh_S HB hb; obtain ⟨c0, c1, c2, c3⟩ := MBlk.c4 hbox; obtain ⟨f0, f1, f2, f3⟩ := MBlk.f4 hbox; have HM := Aside0.mk (h.below hb); clear hbox hb hg) | fail)
    refine Calls.mono (of_none HM.out h8 n hn) ?_
    rintro e w' ⟨rfl, rfl⟩
    go_wp2
    refine bodyPost_ret (results_ct rfl _ _ g 50 #[.string (⟨#[]⟩ : ByteArray), .int .u64 0, .int .i64 0, .bool false] (0, 0) _ rfl (put4 BK.out) hu50 rfl (by kernel_rfl)) rfl ?_
    exact ⟨rfl, sh_B HB⟩
  | some i =>
    obtain ⟨p, x, pb, c, hp, hx, hv, hS⟩ := at_get h hn
    have e : portR st n = (⟨p.nm, p.mac, p.mtu, p.up⟩, true) := by unfold portR; rw [hn]; simp only [hp]
    rw [e]
    obtain ⟨l1, _⟩ := h.like i p x hp hx
    have p0 := ((hv ▸ h.row).cell hx (j := 0) rfl).1
    have p1 := ((hv ▸ h.row).cell hx (j := 1) rfl).1
    have p2 := ((hv ▸ h.row).cell hx (j := 2) rfl).1
    have p3 := ((hv ▸ h.row).cell hx (j := 3) rfl).1
    rw [l1] at p0 p1 p2 p3
    rw [Nat.add_zero] at p0
    clear e
    go_enter Try.func18, Try.ntmps18
    go_wp2_with (first | ((with_reducible refine gate_dst (N := 4) rfl ?_); refine sh_E 4 50 #[.string (⟨#[]⟩ : ByteArray), .int .u64 0, .int .i64 0, .bool false] ?_; intro g hg w1 hbox hb; have BK := Aside0.mk hbox; have GE := sh_G HB hg; replace HB := sh_S HB hb; obtain ⟨c0, c1, c2, c3⟩ := MBlk.c4 hbox; obtain ⟨f0, f1, f2, f3⟩ := MBlk.f4 hbox; replace p0 := pw_cell_below hb p0; replace p1 := pw_cell_below hb p1; replace p2 := pw_cell_below hb p2; replace p3 := pw_cell_below hb p3; have HM := Aside0.mk (h.below hb); clear hbox hb hg) | fail)
    refine Calls.mono (of_some HM.out h8 n hn hv) ?_
    rintro e w' ⟨rfl, rfl⟩
    go_wp2
    refine bodyPost_ret (results_ct rfl _ _ g 50 #[.string p.nm, .int .u64 p.mac, .int .i64 p.mtu, .bool p.up] (0, 0) _ rfl (put4 BK.out) hu50 rfl (by kernel_rfl)) rfl ?_
    exact ⟨rfl, sh_B HB⟩
theorem keyed : Keyed Try.prog 9 := string_keyed Try.underlying9
set_option maxHeartbeats 1000000 in
set_option maxRecDepth 100000 in
theorem named_calls (h : Mem w S sb mb v xs st) (s : ByteArray) (hs : s.size ≤ maxLen) :
    Calls Try.prog 19 #[.pointer (some ⟨sb, 0, none⟩), .string s] w fun e w' => e = .returned (.int .i64 (named st s)) ∧ w = w' := by
  obtain ⟨x0, x1⟩ := MBlk.c2 h.blk
  obtain ⟨n, D, hown, _, hD⟩ := h.map
  have zeroE : (zeroValue 3).run Try.prog w = .ok (.int .i64 0) w := by kernel_rfl
  obtain ⟨c, hrun, hat, _⟩ := hown.lookup_int keyed Try.underlying69 Try.underlying3 zeroE (keyOf_string_mk Try.underlying9 hs)
  rw [hD s] at hat
  have hc : c = named st s := by injection hat with q; injection q with _ q; exact q.symm
  subst hc
  clear hat h hown hD
  go_enter Try.func19, Try.ntmps19
  go_wp2
  go_ret
  exact ⟨rfl, rfl⟩
end
theorem mem_new (w : World) : Mem ((w.alloc (.map #[] 0)).alloc (.cells #[.slice none 0 0, .map (some w.heap.size)] 71 (0, 0))) (fun k => k = w.heap.size ∨ k = w.heap.size + 1) (w.heap.size + 1) w.heap.size (.slice none 0 0) [] [] where
  blk := by
    have := blk_new (w.alloc (.map #[] 0)) (.cells #[.slice none 0 0, .map (some w.heap.size)] 71 (0, 0))
    rwa [show (w.alloc (.map #[] 0)).heap.size = w.heap.size + 1 from Array.size_push ..] at this
  row := RP.nil _
  len := rfl
  like := fun i p x hp _ => by simp at hp
  sep := fun i j x y _ hx _ => by simp at hx
  map := ⟨0, .map [], (World.ownsMap_made w _ _ _).alloc _, Nat.le_refl _, fun s => rfl⟩
  its := ⟨.inr rfl, .inl rfl, fun k hk => by simp [Value.ownBlock] at hk, fun x hx => by cases hx⟩
  lt := fun k hk => by
    show k < ((w.heap.push _).push _).size
    rw [Array.size_push, Array.size_push]
    omega
set_option maxHeartbeats 1000000 in
set_option maxRecDepth 100000 in
theorem new_calls (w : World) : Calls Try.prog 13 #[] w fun e w' => ∃ sb mb S, e = .returned (.pointer (some ⟨sb, 0, none⟩)) ∧ Mem w' S sb mb (.slice none 0 0) [] [] ∧ (∀ k, S k → w.heap.size ≤ k) ∧ Below w.heap.size w w' := by
  have hmm := @run_makeMap Try.prog
  have hu := Try.underlying71
  go_enter Try.func13, Try.ntmps13
  go_wp2
  go_ret
  refine ⟨_, _, _, rfl, mem_new w, ?_, ?_⟩
  · rintro k (rfl | rfl) <;> omega
  · exact below_alloc (below_alloc (Below.refl _ _) _) _
end Go.Proofs.Ytefbcigccfkkgaa.WIf
