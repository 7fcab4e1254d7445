/-
  The calls of a set of ports in memory, fifth part: an address more. Conditions: those of each theorem.
-/
import Derived.Test.YtefbcigccfkkgaaWIface4
import Derived.Deep.AppendLies
set_option linter.unusedVariables false
set_option linter.unusedSimpArgs false
namespace Go.Proofs.Ytefbcigccfkkgaa.WIf
open Go.RowKit Go.Maps Go.WideMaps Go.Proofs.Ytefbcigccfkkgaa.PBase Go.Proofs.YtefbcigccfkkgaaW.PrintWords Go.Proofs.YtefbcigccfkkgaaW.PrintLast Go.Proofs.YtefbcigccfkkgaaW.PrintMore Go.Proofs.Ytefbcigccfkkgaa.If
attribute [local go_sem] max2_int min2_int max_two min_two
/-! The functions of an address always answer. -/
theorem ite_ex {α : Type} {c : Prop} [Decidable c] {a b : Option α} (ha : ∃ r, a = some r) (hb : ∃ r, b = some r) : ∃ r, (if c then a else b) = some r := by split <;> assumption
theorem first_some (x n s : Int) (hs : s = 64 ∨ s = 32) : ∃ r, prefix_first.f x n s = some r := by
  unfold prefix_first.f
  rw [if_pos]
  · exact ⟨_, rfl⟩
  · unfold wrap64 mn mx
    rcases hs with rfl | rfl <;> (repeat split) <;> omega
theorem cut_some (t : Bool) (h l n : Int) : ∃ r, prefix_cut.f t h l n = some r := by
  unfold prefix_cut.f
  cases t with
  | true =>
    rw [if_pos rfl]
    obtain ⟨a, ha⟩ := first_some h n 64 (.inl rfl)
    obtain ⟨b, hb⟩ := first_some l (wrap64 (n - 64)) 64 (.inl rfl)
    rw [ha, hb]; exact ⟨_, rfl⟩
  | false =>
    rw [if_neg (by decide)]
    obtain ⟨a, ha⟩ := first_some l n 32 (.inr rfl)
    rw [ha]; exact ⟨_, rfl⟩
theorem valid_some (t : Bool) (h l : Int) : addr_Valid.f t h l = some (validB ⟨t, h, l⟩) := by
  unfold addr_Valid.f validB
  cases t with
  | true => rfl
  | false =>
    rw [if_neg (by decide)]
    by_cases c : h = 0
    · rw [if_pos c, c]; simp
    · rw [if_neg c]; simp [c]
theorem width_some (t : Bool) (h l : Int) : prefix_width.f t h l = some (if t = true then 128 else 32) := by
  unfold prefix_width.f; split <;> rfl
theorem of_some' (t : Bool) (h l n : Int) : ∃ r, prefix_Of.f t h l n = some r := by
  unfold prefix_Of.f
  rw [valid_some, width_some]
  obtain ⟨c, hc⟩ := cut_some t h l n
  simp only [Option.bind_some, hc]
  repeat (first | exact ⟨_, rfl⟩ | refine ite_ex ?_ ?_)
theorem class_some (t : Bool) (h l : Int) : ∃ r, addr_Class.f t h l = some r := by
  unfold addr_Class.f addr_classSix.f
  rw [valid_some]
  simp only [Option.bind_some, Option.bind_fun_some]
  repeat (first | exact ⟨_, rfl⟩ | refine ite_ex ?_ ?_)
theorem may_some (a : Ad) (bits : Int) : iface_may.f a.f0 a.f1 a.f2 bits = some (mayB a bits) := by
  have : ∃ r, iface_may.f a.f0 a.f1 a.f2 bits = some r := by
    unfold iface_may.f
    obtain ⟨c, hc⟩ := class_some a.f0 a.f1 a.f2
    obtain ⟨q, hq⟩ := of_some' a.f0 a.f1 a.f2 bits
    simp only [hc, hq, Option.bind_some]
    repeat (first | exact ⟨_, rfl⟩ | refine ite_ex ?_ ?_)
  obtain ⟨r, hr⟩ := this
  unfold mayB
  rw [hr]; rfl
theorem pvalid_some (t : Bool) (h l n : Int) : ∃ r, prefix_Valid.f t h l n = some r := by
  unfold prefix_Valid.f
  rw [valid_some, width_some]
  obtain ⟨c, hc⟩ := cut_some t h l n
  simp only [Option.bind_some, hc]
  repeat (first | exact ⟨_, rfl⟩ | refine ite_ex ?_ ?_)
theorem holds_some (t : Bool) (h l n : Int) (t' : Bool) (h' l' : Int) : ∃ r, prefix_Holds.f t h l n t' h' l' = some r := by
  unfold prefix_Holds.f
  rw [valid_some]
  obtain ⟨c, hc⟩ := cut_some t' h' l' n
  obtain ⟨q, hq⟩ := pvalid_some t h l n
  simp only [Option.bind_some, hc, hq]
  repeat (first | exact ⟨_, rfl⟩ | refine ite_ex ?_ ?_)
/-! A port's locals are others. -/
theorem modify_of {st : St} {i : Nat} {p : Pt} (hp : st[i]? = some p) (f g : Pt → Pt) (h : f p = g p) : st.modify i f = st.modify i g := by
  refine List.ext_getElem? (fun j => ?_)
  rw [mod_get, mod_get]
  split
  · rename_i e
    subst e
    rw [hp, Option.map_some, Option.map_some, h]
  · rfl
theorem mem_lset {w w' : World} {S : Nat → Prop} {sb mb : Nat} {v : Value} {xs : List PS} {st : St} (h : Mem w S sb mb v xs st) {pb n c i : Nat} (hv : v = .slice (some ⟨pb, 0, none⟩) n c) {p : Pt} {x : PS} (hp : st[i]? = some p) (hx : xs[i]? = some x) (l' : Sl) (ls' : List Lo)
    (hpb : w'.heap[pb]? = (w.setCell ⟨pb, i * 5 + 4, none⟩ (sv l')).heap[pb]?) (hl : RL w' (sv l') ls') (hat : ∀ k, (sv l').ownBlock = some k → (sv x.l).ownBlock = some k ∨ w.heap.size ≤ k)
    (hfr : ∀ k, k < w.heap.size → k ≠ pb → (sv x.l).ownBlock ≠ some k → w'.heap[k]? = w.heap[k]?) (hs : w.heap.size ≤ w'.heap.size) :
    Mem w' (fun k => S k ∨ (sv l').ownBlock = some k) sb mb v (xs.set i ⟨x.s, l'⟩) (st.modify i fun p => { p with ls := ls' }) := by
  have hvo : v.ownBlock = some pb := by rw [hv]; rfl
  obtain ⟨cp, hcp⟩ := h.row.typed pb hvo
  have hxl := h.like i p x hp hx
  have hi : i < xs.length := (List.getElem?_eq_some_iff.1 hx).1
  have hown : ∀ (k : Nat) (cs : Array Value) (t : Nat), w.heap[k]? = some (.cells cs t (0, 0)) → t ≠ 34 → (sv x.l).ownBlock ≠ some k := fun k cs t hk ht e => by
    obtain ⟨cs', hc⟩ := hxl.2.typed k e
    rw [hc] at hk
    injection hk with hk
    injection hk with _ hk
    exact ht hk.symm
  have hne : ∀ (k : Nat) (cs : Array Value) (t : Nat), w.heap[k]? = some (.cells cs t (0, 0)) → t ≠ 66 → k ≠ pb := fun k cs t hk ht e => by
    subst e
    rw [hcp] at hk
    injection hk with hk
    injection hk with _ hk
    exact ht hk.symm
  have hmbh : ∃ es clock, w.heap[mb]? = some (.map es clock) := by
    obtain ⟨_, _, ⟨es, clock, hb, _⟩, _⟩ := h.map
    exact ⟨es, clock, hb⟩
  have hmb1 : mb ≠ pb := fun e => by
    obtain ⟨es, clock, hb⟩ := hmbh
    rw [e, hcp] at hb
    cases hb
  have hmb2 : (sv x.l).ownBlock ≠ some mb := fun e => by
    obtain ⟨es, clock, hb⟩ := hmbh
    obtain ⟨cs', hc⟩ := hxl.2.typed mb e
    rw [hc] at hb
    cases hb
  have hset : ∀ (j : Nat) (y : PS), (xs.set i ⟨x.s, l'⟩)[j]? = some y → (j = i ∧ y = ⟨x.s, l'⟩) ∨ (j ≠ i ∧ xs[j]? = some y) := fun j y hy => by
    rw [List.getElem?_set] at hy
    by_cases e : i = j
    · subst e
      rw [if_pos rfl, if_pos hi] at hy
      exact .inl ⟨rfl, (Option.some.inj hy).symm⟩
    · rw [if_neg e] at hy
      exact .inr ⟨fun q => e q.symm, hy⟩
  have hlock : ∀ (j : Nat) (y : PS), xs[j]? = some y → ∀ k, (sv y.l).ownBlock = some k → k < w.heap.size ∧ k ≠ pb := fun j y hy k hk => by
    have hj : j < st.length := by rw [← h.len]; exact (List.getElem?_eq_some_iff.1 hy).1
    obtain ⟨_, l2⟩ := h.like j st[j] y (List.getElem?_eq_getElem hj) hy
    obtain ⟨cs, hc⟩ := l2.typed k hk
    exact ⟨l2.lt k hk, hne k cs _ hc (by decide)⟩
  refine ⟨(hfr sb (h.lt sb h.its.1) (hne sb _ _ h.blk (by decide)) (hown sb _ _ h.blk (by decide))).trans h.blk, ?_, by rw [List.length_set, List.length_modify]; exact h.len, ?_, ?_, ?_, ?_, ?_⟩
  · have hrs := RP.set (hv ▸ h.row) (x' := ⟨x.s, l'⟩) (u := sv l') hx (j := 4) (by decide) rfl
    rw [hv]
    exact hrs.keep (fun k hk => by obtain rfl : pb = k := Option.some.inj hk; exact hpb)
  · intro j q y hq hy
    rw [mod_get] at hq
    rcases hset j y hy with ⟨rfl, rfl⟩ | ⟨hj, hy2⟩
    · rw [if_pos rfl, hp] at hq
      obtain rfl := Option.some.inj hq
      exact ⟨hxl.1, hl⟩
    · rw [if_neg (fun e => hj e.symm)] at hq
      obtain ⟨l1, l2⟩ := h.like j q y hq hy2
      exact ⟨l1, l2.keep (fun k hk => hfr k (hlock j y hy2 k hk).1 (hlock j y hy2 k hk).2 (fun e => h.sep j i y x hj hy2 hx k hk e))⟩
  · intro j j' y y' hne' hy hy' k hk hk'
    rcases hset j y hy with ⟨rfl, rfl⟩ | ⟨hj, hy2⟩
    · rcases hset j' y' hy' with ⟨rfl, rfl⟩ | ⟨hj', hy2'⟩
      · exact hne' rfl
      · rcases hat k hk with q | q
        · exact h.sep j j' x y' hne' hx hy2' k q hk'
        · have := (hlock j' y' hy2' k hk').1
          omega
    · rcases hset j' y' hy' with ⟨rfl, rfl⟩ | ⟨hj', hy2'⟩
      · rcases hat k hk' with q | q
        · exact h.sep j j' y x hne' hy2 hx k hk q
        · have := (hlock j y hy2 k hk).1
          omega
      · exact h.sep j j' y y' hne' hy2 hy2' k hk hk'
  · refine (h.map.keep (hfr mb (h.lt mb h.its.2.1) hmb1 hmb2)).same (List.length_modify ..) (fun s => ?_)
    unfold named
    exact congrArg num (named_modify _ _ _ _ (fun _ => rfl))
  · refine ⟨.inl h.its.1, .inl h.its.2.1, fun k hk => .inl (h.its.2.2.1 k hk), fun y hy k hk => ?_⟩
    obtain ⟨j, hj⟩ := List.mem_iff_getElem?.1 hy
    rcases hset j y hj with ⟨rfl, rfl⟩ | ⟨_, hy2⟩
    · exact .inr hk
    · exact .inl (h.its.2.2.2 y (List.mem_of_getElem? hy2) k hk)
  · intro k hk
    rcases hk with q | q
    · exact Nat.lt_of_lt_of_le (h.lt k q) hs
    · exact hl.lt k q
section
variable {w : World} {S : Nat → Prop} {sb mb : Nat} {v : Value} {xs : List PS} {st : St}
set_option maxHeartbeats 1000000 in
set_option maxRecDepth 100000 in
theorem put_none (h : Mem w S sb mb v xs st) (h8 : st.length ≤ 8) (n : Int) (a : Ad) (bits : Int) (hn : at? st n = none) :
    Calls Try.prog 25 #[.pointer (some ⟨sb, 0, none⟩), .int .i64 n, .agg #[.bool a.f0, .int .u64 a.f1, .int .u64 a.f2], .int .i64 bits] w fun e w' => e = .returned (.int .i64 132) ∧ Below w.heap.size w w' := by
  have HB := Aside0.mk (Below.refl w.heap.size w)
  go_enter Try.func25, Try.ntmps25
  go_wp2_with (first | ((with_reducible refine gate_dst (N := 6) rfl ?_); refine sh_E 6 25 #[.bool a.f0, .int .u64 a.f1, .int .u64 a.f2] ?_; intro g hg w1 hbox hb; replace HB := sh_S HB hb; have HM := Aside0.mk (h.below hb); clear hbox hb hg) | fail)
  refine Calls.mono (of_none HM.out h8 n hn) ?_
  rintro e w' ⟨rfl, rfl⟩
  go_wp2
  go_ret
  exact ⟨rfl, HB.out⟩
set_option maxHeartbeats 1000000 in
set_option maxRecDepth 100000 in
theorem put_bad (h : Mem w S sb mb v xs st) (h8 : st.length ≤ 8) (hls : ∀ p ∈ st, p.ls.length ≤ 8) (n : Int) (a : Ad) (bits : Int) {i : Nat} (hn : at? st n = some i) (hbad : putBad st i a bits = true) :
    Calls Try.prog 25 #[.pointer (some ⟨sb, 0, none⟩), .int .i64 n, .agg #[.bool a.f0, .int .u64 a.f1, .int .u64 a.f2], .int .i64 bits] w fun e w' => e = .returned (.int .i64 133) ∧ Below w.heap.size w w' := by
  have HB := Aside0.mk (Below.refl w.heap.size w)
  obtain ⟨p, x, pb, c, hp, hx, hv, hS⟩ := at_get h hn
  obtain ⟨l1, _⟩ := h.like i p x hp hx
  have p2 := ((hv ▸ h.row).cell hx (j := 2) rfl).1
  rw [l1] at p2
  have HBAD := Aside0.mk (show mayB a bits = false ∨ mine st a ≠ 0 ∨ (a.f0 = true ∧ p.mtu < 1280) by
    unfold putBad at hbad
    rw [hp] at hbad
    simpa [or_assoc] using hbad)
  clear hbad
  have hmine := fun W (hW : Mem W S sb mb v xs st) => mine_calls hW h8 hls a
  have hmay := fun W => iface_may.calls a.f0 a.f1 a.f2 bits (mayB a bits) W (may_some a bits)
  go_enter Try.func25, Try.ntmps25
  go_wp2_with (first | ((with_reducible refine gate_dst (N := 6) rfl ?_); refine sh_E 6 25 #[.bool a.f0, .int .u64 a.f1, .int .u64 a.f2] ?_; intro g hg w1 hbox hb; replace HB := sh_S HB hb; have BK := Aside0.mk hbox; obtain ⟨c0, c1, c2⟩ := MBlk.c3 hbox; replace p2 := pw_cell_below hb p2; have HM := Aside0.mk (h.below hb); clear hbox hb hg) | fail)
  refine Calls.mono (of_some HM.out h8 n hn hv) ?_
  rintro e w' ⟨rfl, rfl⟩
  go_wp2_with fail
  refine Calls.mono (hmay _) ?_
  rintro e w2 ⟨rfl, hb⟩
  have HB2 := Aside0.mk (sh_S HB hb).out
  have HM2 := Aside0.mk (HM.out.below hb)
  replace c0 := pw_cell_below hb c0
  replace c1 := pw_cell_below hb c1
  replace c2 := pw_cell_below hb c2
  replace p2 := pw_cell_below hb p2
  clear hb
  cases hm : mayB a bits with
  | false =>
    go_wp2
    go_ret
    exact ⟨rfl, HB2.out⟩
  | true =>
    go_wp2_with fail
    refine Calls.mono (hmine _ HM2.out) ?_
    rintro e w3 ⟨rfl, hb⟩
    have HB3 := Aside0.mk (sh_S HB2 hb).out
    replace c0 := pw_cell_below hb c0
    replace p2 := pw_cell_below hb p2
    clear hb
    by_cases h0 : mine st a = 0
    · obtain ⟨z, hz⟩ : ∃ z, mine st a = z := ⟨_, rfl⟩
      have HX := Aside0.mk (show a.f0 = true ∧ p.mtu < 1280 by
        rcases HBAD.out with q | q | q
        · rw [hm] at q; cases q
        · exact absurd h0 q
        · exact q)
      rw [hz] at h0 ⊢
      subst h0
      obtain ⟨q1, q2⟩ := HX.out
      rw [q1] at c0
      clear hz
      go_wp2
      go_ret
      exact ⟨rfl, HB3.out⟩
    · have hnb : (mine st a == 0) = false := by simpa using h0
      obtain ⟨z, hz⟩ : ∃ z, mine st a = z := ⟨_, rfl⟩
      rw [hz] at h0 hnb ⊢
      clear hz
      go_wp2
      go_ret
      exact ⟨rfl, HB3.out⟩
theorem putBad_not {i : Nat} {a : Ad} {bits : Int} {p : Pt} (hp : st[i]? = some p) (h : putBad st i a bits = false) : mayB a bits = true ∧ mine st a = 0 ∧ (a.f0 = true → 1280 ≤ p.mtu) := by
  unfold putBad at h
  rw [hp] at h
  simp only [Option.map_some, Option.getD_some, Bool.or_eq_false_iff, Bool.and_eq_false_iff, beq_eq_false_iff_ne, bne_eq_false_iff_eq, decide_eq_false_iff_not, ne_eq, Bool.not_eq_false] at h
  refine ⟨h.1.1, h.1.2, fun q => ?_⟩
  rcases h.2 with z | z
  · rw [q] at z; cases z
  · omega
set_option maxHeartbeats 1000000 in
set_option maxRecDepth 100000 in
theorem put_full (h : Mem w S sb mb v xs st) (h8 : st.length ≤ 8) (hls : ∀ p ∈ st, p.ls.length ≤ 8) (n : Int) (a : Ad) (bits : Int) {i : Nat} (hn : at? st n = some i) (hbad : putBad st i a bits = false) {p : Pt} (hp : st[i]? = some p) (hfull : p.ls.length = 8) :
    Calls Try.prog 25 #[.pointer (some ⟨sb, 0, none⟩), .int .i64 n, .agg #[.bool a.f0, .int .u64 a.f1, .int .u64 a.f2], .int .i64 bits] w fun e w' => e = .returned (.int .i64 131) ∧ Below w.heap.size w w' := by
  have HB := Aside0.mk (Below.refl w.heap.size w)
  obtain ⟨p', x, pb, c, hp', hx, hv, hS⟩ := at_get h hn
  obtain rfl : p = p' := Option.some.inj (hp.symm.trans hp')
  obtain ⟨l1, l2⟩ := h.like i p x hp hx
  obtain ⟨hm, h0, hsix⟩ := putBad_not hp hbad
  have HSX := Aside0.mk hsix
  have p2 := ((hv ▸ h.row).cell hx (j := 2) rfl).1
  have p4 := ((hv ▸ h.row).cell hx (j := 4) rfl).1
  rw [l1] at p2
  obtain ⟨A, cl, el⟩ := l2.slice
  rw [el, hfull] at p4
  clear hbad hsix
  have hmine := fun W (hW : Mem W S sb mb v xs st) => mine_calls hW h8 hls a
  have hmay := fun W => iface_may.calls a.f0 a.f1 a.f2 bits (mayB a bits) W (may_some a bits)
  rw [hm] at hmay
  rw [h0] at hmine
  go_enter Try.func25, Try.ntmps25
  go_wp2_with (first | ((with_reducible refine gate_dst (N := 6) rfl ?_); refine sh_E 6 25 #[.bool a.f0, .int .u64 a.f1, .int .u64 a.f2] ?_; intro g hg w1 hbox hb; replace HB := sh_S HB hb; have BK := Aside0.mk hbox; obtain ⟨c0, c1, c2⟩ := MBlk.c3 hbox; replace p2 := pw_cell_below hb p2; replace p4 := pw_cell_below hb p4; have HM := Aside0.mk (h.below hb); clear hbox hb hg) | fail)
  refine Calls.mono (of_some HM.out h8 n hn hv) ?_
  rintro e w' ⟨rfl, rfl⟩
  go_wp2_with fail
  refine Calls.mono (hmay _) ?_
  rintro e w2 ⟨rfl, hb⟩
  have HB2 := Aside0.mk (sh_S HB hb).out
  have HM2 := Aside0.mk (HM.out.below hb)
  replace c0 := pw_cell_below hb c0
  replace c1 := pw_cell_below hb c1
  replace c2 := pw_cell_below hb c2
  replace p2 := pw_cell_below hb p2
  replace p4 := pw_cell_below hb p4
  clear hb
  go_wp2_with fail
  refine Calls.mono (hmine _ HM2.out) ?_
  rintro e w3 ⟨rfl, hb⟩
  have HB3 := Aside0.mk (sh_S HB2 hb).out
  replace c0 := pw_cell_below hb c0
  replace p2 := pw_cell_below hb p2
  replace p4 := pw_cell_below hb p4
  clear hb
  cases hs : a.f0 with
  | true =>
    have := HSX.out hs
    have hmt : decide (p.mtu < 1280) = false := decide_eq_false (by omega)
    rw [hs] at c0
    go_wp2
    go_ret
    exact ⟨rfl, HB3.out⟩
  | false =>
    rw [hs] at c0
    go_wp2
    go_ret
    exact ⟨rfl, HB3.out⟩
theorem put_fin {w0 w3 w4 : World} (hb : Below w0.heap.size w0 w3) (h : Mem w3 S sb mb v xs st) (hlt : ∀ k, S k → k < w0.heap.size) {pb n c i : Nat} (hv : v = .slice (some ⟨pb, 0, none⟩) n c) {p : Pt} {x : PS} (hp : st[i]? = some p) (hx : xs[i]? = some x) {A : Option Addr} {cl gg cap : Nat} (hel : sv x.l = .slice A p.ls.length cl)
    {inner : List Value} {ok : Nat → Prop} (hr : Reps (k34.M w3 0 ok) k34.sz p.ls inner) {a : Ad} {bits : Int} (b : Bool) (hb0 : a.f0 = b) (hown : w4.ownsRow 0 34 4 (.slice (some ⟨gg, 0, none⟩) (p.ls.length + 1) cap) (p.ls.length + 1) (inner ++ [.bool b, .int .u64 a.f1, .int .u64 a.f2, .int .i64 bits]))
    {o : Obj} (hg : (w3.alloc o).drew.grownBy w4 (Value.slice A p.ls.length cl).ownBlock) (hat : (Value.slice A p.ls.length cl).ownBlock = some gg ∨ gg = w3.heap.size + 1) :
    Stepped w0 (w4.setCell ⟨pb, i * 5 + 4, none⟩ (.slice (some ⟨gg, 0, none⟩) (p.ls.length + 1) cap)) S sb mb (st.modify i fun p => { p with ls := p.ls ++ [⟨a, bits⟩] }) := by
  subst hb0
  have hvo : v.ownBlock = some pb := by rw [hv]; rfl
  obtain ⟨cp, hcp⟩ := h.row.typed pb hvo
  have hpl := h.row.lt pb hvo
  have hl := (h.like i p x hp hx).2
  rw [hel] at hl
  have hpbo : (Value.slice A p.ls.length cl).ownBlock ≠ some pb := fun e => by
    obtain ⟨cs, hc⟩ := hl.typed pb e
    rw [hcp] at hc; injection hc with hc; injection hc with _ hc; exact absurd hc (by decide)
  have hF : ∀ k, k < w3.heap.size → (Value.slice A p.ls.length cl).ownBlock ≠ some k → w4.heap[k]? = w3.heap[k]? := fun k h1 h2 => (hg.block k (by show k < (w3.heap.push _).size; rw [Array.size_push]; omega) (fun e => h2 e.symm)).trans ((World.grownBy_alloc w3 _ none).block k h1 (by simp))
  have hsz : w3.heap.size ≤ w4.heap.size := by
    have h1 : (w3.heap.push o).size ≤ w4.heap.size := hg.size
    rw [Array.size_push] at h1
    omega
  have hggpb : gg ≠ pb := by
    rcases hat with q | q
    · exact fun e => hpbo (e ▸ q)
    · omega
  have hfar : ∀ k, k ≠ pb → (w4.setCell ⟨pb, i * 5 + 4, none⟩ (.slice (some ⟨gg, 0, none⟩) (p.ls.length + 1) cap)).heap[k]? = w4.heap[k]? := fun k hk => Below.heap_setCell w4 _ _ k hk
  have hss : (w4.setCell ⟨pb, i * 5 + 4, none⟩ (.slice (some ⟨gg, 0, none⟩) (p.ls.length + 1) cap)).heap.size = w4.heap.size := by simp [World.setCell]
  have hRL : RL w4 (.slice (some ⟨gg, 0, none⟩) (p.ls.length + 1) cap) (p.ls ++ [⟨a, bits⟩]) := by
    refine RL.of (base := 0) (ok := fun _ => True) ⟨fun _ _ => trivial, inner ++ [.bool a.f0, .int .u64 a.f1, .int .u64 a.f2, .int .i64 bits], ?_, ?_⟩
    · rw [List.length_append]
      exact hown
    · refine (Reps.snoc (hr.imp_ (fun y cs hq => ?_)) ?_ rfl)
      · obtain rfl := k34_openM hq
        exact k34_mkM _ _ _ _
      · exact k34_mkM w4 0 _ (⟨a, bits⟩ : Lo)
  have hm := mem_lset (w' := w4.setCell ⟨pb, i * 5 + 4, none⟩ (.slice (some ⟨gg, 0, none⟩) (p.ls.length + 1) cap)) h hv hp hx ⟨some ⟨gg, 0, none⟩, p.ls.length + 1, cap⟩ (p.ls ++ [⟨a, bits⟩]) ?_ ?_ ?_ ?_ ?_
  · rw [modify_of hp (fun p => { p with ls := p.ls ++ [⟨a, bits⟩] }) (fun q => { q with ls := p.ls ++ [⟨a, bits⟩] }) rfl]
    refine ⟨_, _, _, hm, ?_, ?_⟩
    · intro k hk
      rcases hk with q | q
      · exact .inl q
      · obtain rfl : gg = k := Option.some.inj q
        rcases hat with z | z
        · exact .inl (h.its.2.2.2 x (List.mem_of_getElem? hx) gg (by rw [hel]; exact z))
        · have := hb.size
          exact .inr (by omega)
    · refine ⟨(hg.os.trans rfl).trans hb.os, (hg.tape.trans rfl).trans hb.tape, (hg.output.trans rfl).trans hb.output, by have := hb.size; omega, fun k hk hn => ?_⟩
      have hb2 := hb.size
      exact ((hfar k (fun e => hn (e ▸ h.its.2.2.1 pb hvo))).trans (hF k (by omega) (fun e => hn (h.its.2.2.2 x (List.mem_of_getElem? hx) k (by rw [hel]; exact e))))).trans (hb.block k hk)
  · have h4 := (hF pb hpl hpbo).trans hcp
    rw [MReader.setCell_heap h4, MReader.setCell_heap hcp]
    rfl
  · exact hRL.keep (fun k hk => hfar k (by obtain rfl : gg = k := Option.some.inj hk; exact hggpb))
  · intro k hk
    obtain rfl : gg = k := Option.some.inj hk
    rcases hat with z | z
    · exact .inl (by rw [hel]; exact z)
    · exact .inr (by omega)
  · intro k h1 h2 h3
    exact (hfar k h2).trans (hF k h1 (by rw [← hel]; exact h3))
  · omega
set_option maxHeartbeats 1000000 in
set_option maxRecDepth 100000 in
theorem put_done (h : Mem w S sb mb v xs st) (h8 : st.length ≤ 8) (hls : ∀ p ∈ st, p.ls.length ≤ 8) (n : Int) (a : Ad) (bits : Int) {i : Nat} (hn : at? st n = some i) (hbad : putBad st i a bits = false) {p : Pt} (hp : st[i]? = some p) (hfull : p.ls.length < 8) :
    Calls Try.prog 25 #[.pointer (some ⟨sb, 0, none⟩), .int .i64 n, .agg #[.bool a.f0, .int .u64 a.f1, .int .u64 a.f2], .int .i64 bits] w fun e w' => e = .returned (.int .i64 0) ∧ Stepped w w' S sb mb (st.modify i fun p => { p with ls := p.ls ++ [⟨a, bits⟩] }) := by
  have HB := Aside0.mk (Below.refl w.heap.size w)
  obtain ⟨p', x, pb, c, hp', hx, hv, hS⟩ := at_get h hn
  obtain rfl : p = p' := Option.some.inj (hp.symm.trans hp')
  obtain ⟨l1, l2⟩ := h.like i p x hp hx
  obtain ⟨hm, h0, hsix⟩ := putBad_not hp hbad
  have HSX := Aside0.mk hsix
  have HSL := Aside0.mk h.lt
  have p2 := ((hv ▸ h.row).cell hx (j := 2) rfl).1
  obtain ⟨p4, f4⟩ := (hv ▸ h.row).cell hx (j := 4) rfl
  rw [l1] at p2
  obtain ⟨A, cl, el⟩ := l2.slice
  have HEL := Aside0.mk el
  rw [el] at p4
  have h8b : ((p.ls.length : Int) == 8) = false := by simpa using (by omega : ¬ (p.ls.length : Int) = 8)
  clear hbad hsix
  have hmine := fun W (hW : Mem W S sb mb v xs st) => mine_calls hW h8 hls a
  have hmay := fun W => iface_may.calls a.f0 a.f1 a.f2 bits (mayB a bits) W (may_some a bits)
  rw [hm] at hmay
  rw [h0] at hmine
  go_enter Try.func25, Try.ntmps25
  go_wp2_with (first | ((with_reducible refine gate_dst (N := 6) rfl ?_); refine sh_E 6 25 #[.bool a.f0, .int .u64 a.f1, .int .u64 a.f2] ?_; intro g hg w1 hbox hb; replace HB := sh_S HB hb; have BK := Aside0.mk hbox; obtain ⟨c0, c1, c2⟩ := MBlk.c3 hbox; replace p2 := pw_cell_below hb p2; replace p4 := pw_cell_below hb p4; have HM := Aside0.mk (h.below hb); clear hbox hb hg f4) | fail)
  refine Calls.mono (of_some HM.out h8 n hn hv) ?_
  rintro e w' ⟨rfl, rfl⟩
  go_wp2_with fail
  refine Calls.mono (hmay _) ?_
  rintro e w2 ⟨rfl, hb⟩
  have HB2 := Aside0.mk (sh_S HB hb).out
  have BK2 := Aside0.mk (blk_below BK.out hb)
  have HM2 := Aside0.mk (HM.out.below hb)
  replace c0 := pw_cell_below hb c0
  replace c1 := pw_cell_below hb c1
  replace c2 := pw_cell_below hb c2
  replace p2 := pw_cell_below hb p2
  replace p4 := pw_cell_below hb p4
  clear hb
  go_wp2_with fail
  refine Calls.mono (hmine _ HM2.out) ?_
  rintro e w3 ⟨rfl, hb⟩
  have HB3 := Aside0.mk (sh_S HB2 hb).out
  have BK3 := Aside0.mk (blk_below BK2.out hb)
  have HM3 := Aside0.mk (HM2.out.below hb)
  replace c0 := pw_cell_below hb c0
  replace c1 := pw_cell_below hb c1
  replace c2 := pw_cell_below hb c2
  replace p2 := pw_cell_below hb p2
  replace p4 := pw_cell_below hb p4
  clear hb HM2 HB2 HB HM BK BK2
  obtain ⟨f4, _⟩ : w3.frozen? ⟨pb, i * 5 + 4, none⟩ = false ∧ True := ⟨((hv ▸ HM3.out.row).cell hx (j := 4) rfl).2, trivial⟩
  have hl3 := (HM3.out.like i p x hp hx).2
  rw [el] at hl3
  obtain ⟨_, inner, hown, hreps⟩ := hl3
  have HOWN := Aside0.mk hown
  have HREPS := Aside0.mk hreps
  have HLT := Aside0.mk hfull
  clear el hown hreps hfull
  obtain ⟨i0, hi0, hz0, hz1, hz2⟩ := info_parts (show (Try.prog.info? 34).map (fun i => (i.zero, i.size, i.bytes)) = some (some (.agg #[.bool false, .int .u64 0, .int .u64 0, .int .i64 0]), 4, 32) by kernel_rfl)
  have hnw := Aside0.mk (World.news_of_block (w := w3.alloc (.cells #[.bool a.f0, .int .u64 a.f1, .int .u64 a.f2, .int .i64 bits] 34)) (cs := #[.bool a.f0, .int .u64 a.f1, .int .u64 a.f2, .int .i64 bits]) (t := 34) (fr := (0, 0)) (heap_alloc_new w3 _))
  have hn2 := Aside0.mk (show p.ls.length + 1 ≤ maxLen by have := HLT.out; unfold maxLen; omega)
  have hn3 := Aside0.mk (show (p.ls.length + 1) * 32 ≤ 140737488355328 by have := HLT.out; omega)
  have hpbo : (Value.slice A p.ls.length cl).ownBlock ≠ some pb := fun e => by
    obtain ⟨cs, hc⟩ := own_typed HOWN.out pb e
    obtain ⟨cp, hcp⟩ := HM3.out.row.typed pb (by rw [hv]; rfl)
    rw [hcp] at hc; injection hc with hc; injection hc with _ hc; exact absurd hc (by decide)
  have HPB := Aside0.mk hpbo
  have hpbl := HM3.out.lt pb hS
  have hgo : (Value.slice A p.ls.length cl).ownBlock ≠ some g := fun e => by
    obtain ⟨cs, hc⟩ := own_typed HOWN.out g e
    rw [BK3.out] at hc; injection hc with hc; injection hc with _ hc; exact absurd hc (by decide)
  have hgl := blk_lt BK3.out
  have HFS := Aside0.mk (show pb < w3.heap.size ∧ g < w3.heap.size ∧ (Value.slice A p.ls.length cl).ownBlock ≠ some pb ∧ (Value.slice A p.ls.length cl).ownBlock ≠ some g from ⟨hpbl, hgl, hpbo, hgo⟩)
  clear hpbl hgl hpbo hgo
  have hsix2 : a.f0 = false ∨ (a.f0 = true ∧ decide (p.mtu < 1280) = false) := by
    cases hs : a.f0 with
    | false => exact .inl rfl
    | true => exact .inr ⟨rfl, decide_eq_false (by have := HSX.out hs; omega)⟩
  have hne1 := World.new_ne w3 _ p4
  have p4a : ∀ o, (w3.drew.alloc o).cell? ⟨pb, i * 5 + 4, none⟩ = some (.slice A p.ls.length cl) := fun o => (World.cell?_alloc_some _ _ _ (by first | (rw [show w3.drew.cell? _ = _ from p4]; rfl) | (rw [p4]; rfl))).trans p4
  have p4b : ∀ o, (w3.alloc o).cell? ⟨pb, i * 5 + 4, none⟩ = some (.slice A p.ls.length cl) := fun o => (World.cell?_alloc_some _ _ _ (by first | (rw [show w3.drew.cell? _ = _ from p4]; rfl) | (rw [p4]; rfl))).trans p4
  rcases hsix2 with hs | ⟨hs, hmt⟩
  · rw [hs] at c0 hnw
    go_upto_region 8 with (fail)
    go_region_law (refine step_append_lies _ (by rfl) _ _ _ (by rfl) 0 34 i0 _ 4 32 Try.underlying31 hi0 hz0 hz1 hz2 rfl (by omega) _ p.ls.length _ (by rfl) ((HOWN.out.alloc _).drew) ⟨w3.heap.size, 0, none⟩ 1 1 _ (by rfl) (by rfl) hnw.out (by simp [Value.oneCell']) (by omega) hn2.out hn3.out (Nat.zero_le _) (w3.heap.size + 1) (by simp) ?_; intro gg cap w4 hown1 hgrow hat hlt; have HF4 := Aside0.mk (show ∀ k, k < w3.heap.size → (Value.slice A p.ls.length cl).ownBlock ≠ some k → w4.heap[k]? = w3.heap[k]? from fun k h1 h2 => (hgrow.block k (by simp; omega) (fun e => h2 e.symm)).trans ((World.grownBy_alloc w3 _ none).block k h1 (by simp))); have cw4 := (World.cell?_of_block (a := ⟨pb, i * 5 + 4, none⟩) (HF4.out pb HFS.out.1 HFS.out.2.2.1)).trans p4; have fw4 := (World.frozen?_of_block (a := ⟨pb, i * 5 + 4, none⟩) (HF4.out pb HFS.out.1 HFS.out.2.2.1)).trans f4; have HOW := Aside0.mk hown1; have HGR := Aside0.mk hgrow; have HAT := Aside0.mk hat; clear hown1 hgrow hat)
    all_goals (go_wp2; go_ret; exact ⟨rfl, put_fin HB3.out HM3.out HSL.out hv hp hx HEL.out HREPS.out _ hs HOW.out HGR.out HAT.out⟩)
  · rw [hs] at c0 hnw
    go_upto_region 8 with (fail)
    go_region_law (refine step_append_lies _ (by rfl) _ _ _ (by rfl) 0 34 i0 _ 4 32 Try.underlying31 hi0 hz0 hz1 hz2 rfl (by omega) _ p.ls.length _ (by rfl) ((HOWN.out.alloc _).drew) ⟨w3.heap.size, 0, none⟩ 1 1 _ (by rfl) (by rfl) hnw.out (by simp [Value.oneCell']) (by omega) hn2.out hn3.out (Nat.zero_le _) (w3.heap.size + 1) (by simp) ?_; intro gg cap w4 hown1 hgrow hat hlt; have HF4 := Aside0.mk (show ∀ k, k < w3.heap.size → (Value.slice A p.ls.length cl).ownBlock ≠ some k → w4.heap[k]? = w3.heap[k]? from fun k h1 h2 => (hgrow.block k (by simp; omega) (fun e => h2 e.symm)).trans ((World.grownBy_alloc w3 _ none).block k h1 (by simp))); have cw4 := (World.cell?_of_block (a := ⟨pb, i * 5 + 4, none⟩) (HF4.out pb HFS.out.1 HFS.out.2.2.1)).trans p4; have fw4 := (World.frozen?_of_block (a := ⟨pb, i * 5 + 4, none⟩) (HF4.out pb HFS.out.1 HFS.out.2.2.1)).trans f4; have HOW := Aside0.mk hown1; have HGR := Aside0.mk hgrow; have HAT := Aside0.mk hat; clear hown1 hgrow hat)
    all_goals (go_wp2; go_ret; exact ⟨rfl, put_fin HB3.out HM3.out HSL.out hv hp hx HEL.out HREPS.out _ hs HOW.out HGR.out HAT.out⟩)
theorem put_calls (h : Mem w S sb mb v xs st) (h8 : st.length ≤ 8) (hls : ∀ p ∈ st, p.ls.length ≤ 8) (n : Int) (a : Ad) (bits : Int) :
    Calls Try.prog 25 #[.pointer (some ⟨sb, 0, none⟩), .int .i64 n, .agg #[.bool a.f0, .int .u64 a.f1, .int .u64 a.f2], .int .i64 bits] w fun e w' => e = .returned (.int .i64 (put st n a bits).2) ∧ Stepped w w' S sb mb (put st n a bits).1 := by
  cases hn : at? st n with
  | none =>
    have e : put st n a bits = (st, 132) := by unfold put; rw [hn]
    rw [e]
    exact Calls.mono (put_none h h8 n a bits hn) (fun _ _ q => ⟨q.1, Stepped.same h q.2⟩)
  | some i =>
    obtain ⟨p, x, pb, c, hp, hx, hv, hS⟩ := at_get h hn
    cases hbad : putBad st i a bits with
    | true =>
      have e : put st n a bits = (st, 133) := by unfold put; rw [hn]; simp only; rw [if_pos hbad]
      rw [e]
      exact Calls.mono (put_bad h h8 hls n a bits hn hbad) (fun _ _ q => ⟨q.1, Stepped.same h q.2⟩)
    | false =>
      have hnb : ¬ putBad st i a bits = true := by rw [hbad]; decide
      have hl : (st[i]?.map (·.ls.length)).getD 0 = p.ls.length := by rw [hp]; rfl
      have h88 := hls p (List.mem_of_getElem? hp)
      by_cases h8b : p.ls.length = 8
      · have e : put st n a bits = (st, 131) := by unfold put; rw [hn]; simp only; rw [if_neg hnb, if_pos (by rw [hl]; exact h8b)]
        rw [e]
        exact Calls.mono (put_full h h8 hls n a bits hn hbad hp h8b) (fun _ _ q => ⟨q.1, Stepped.same h q.2⟩)
      · have e : put st n a bits = (st.modify i fun p => { p with ls := p.ls ++ [⟨a, bits⟩] }, 0) := by unfold put; rw [hn]; simp only; rw [if_neg hnb, if_neg (by rw [hl]; exact h8b)]
        rw [e]
        exact put_done h h8 hls n a bits hn hbad hp (by omega)
end
end Go.Proofs.Ytefbcigccfkkgaa.WIf
