/-
  Several texts in one. Conditions: those of each theorem.
-/
import Derived.Test.YtefbcigccfkkgaaWIfaceDC
import Derived.MapKept
set_option linter.unusedVariables false
set_option linter.unusedSimpArgs false
namespace Go.Proofs.Ytefbcigccfkkgaa.WIf
open Go.RowKit Go.Maps Go.WideMaps Go.Proofs.Ytefbcigccfkkgaa.PBase Go.Proofs.YtefbcigccfkkgaaW.PrintWords Go.Proofs.YtefbcigccfkkgaaW.PrintLast Go.Proofs.YtefbcigccfkkgaaW.PrintMore Go.Proofs.Ytefbcigccfkkgaa.If
attribute [local go_sem] max2_int min2_int max_two min_two
set_option maxHeartbeats 1000000 in
set_option maxRecDepth 100000 in
theorem pclone_some (w : World) (ad : Addr) (c : Nat) (xs : List PS) (hC : kP.C w (some ad) xs.length xs) (h8 : xs.length ≤ 1000000) :
    Calls Try.prog 43 #[.slice (some ad) xs.length c] w fun e w' => ∃ v', e = .returned v' ∧ RP w' v' xs ∧ (∀ k, v'.ownBlock = some k → w.heap.size ≤ k) ∧ Below w.heap.size w w' := by
  have HC := Aside0.mk hC
  have HL := Aside0.mk h8
  clear hC h8
  have q31 : ∀ (w : World) (a : Option Addr) (n c n' c' : Nat), (binOp .eql 68 (.slice a n c) (.slice none n' c')).run Try.prog w = .ok (.bool a.isNone) w := fun w a n c n' c' => Lib.run_eql_slice_nil w _ _ a n c n' c' Try.underlying68
  go_enter Try.func43, Try.ntmps43
  go_wp2_with (first | ((with_reducible refine gate_builtin (b := .append) (xs := #[.tmp 5, .tmp 6]) rfl ?_); at_builtin; refine Kd.R_append_rows kP (Rr := Kd.K kP (w.alloc (.cells #[] 66))) (w0 := w) w.heap.size rfl (.tmp 5) (.tmp 6) 68 66 (.agg #[.string ⟨#[]⟩, .int .u64 0, .int .i64 0, .bool false, .slice none 0 0]) 64 rfl Try.underlying68 (by kernel_rfl) rfl (by decide) (by decide) (.slice (some ⟨w.heap.size, 0, none⟩) 0 0) [] xs _ _ _ (fun _ => True) (fun _ => False) rfl rfl ?aO ?aR ?aK (fun _ h => h.elim) (fun _ _ => trivial) ?aB ?aS ?aL ?_; (case aO => exact ⟨fun _ _ => trivial, [], World.ownsRow_made w #[] 0 (Nat.le_refl _) (Nat.zero_le _) rfl, Reps.none _ _⟩); (case aR => exact Kd.C_below HC.out (below_alloc (Below.refl _ _) _)); (case aK => exact (fun y cs hq => by obtain rfl := kP_open hq; exact kP_mkM _ _ _ _)); (case aB => exact below_alloc (Below.refl _ _) _); (case aS => simp); (case aL => simp only [List.length_nil]; have := HL.out; omega); intro v1 w1 ho hb hg hat; have HO := Aside0.mk ho; have HAT := Aside0.mk hat; have HB := Aside0.mk hb; clear ho hb hg hat) | fail)
  go_ret
  refine ⟨v1, rfl, RP.of (by simpa using HO.out), fun k hk => ?_, HB.out⟩
  rcases HAT.out with e | ⟨b, e, hle⟩
  · rw [e] at hk
    have : w.heap.size = k := Option.some.inj hk
    omega
  · rw [e] at hk
    have := Option.some.inj hk
    have h2 : (w.alloc (.cells #[] 66)).heap.size = w.heap.size + 1 := Array.size_push ..
    omega
set_option maxHeartbeats 1000000 in
set_option maxRecDepth 100000 in
theorem pclone_none (w : World) (n c : Nat) :
    Calls Try.prog 43 #[.slice none n c] w fun e w' => e = .returned (.slice none 0 0) ∧ w = w' := by
  have q31 : ∀ (w : World) (a : Option Addr) (n c n' c' : Nat), (binOp .eql 68 (.slice a n c) (.slice none n' c')).run Try.prog w = .ok (.bool a.isNone) w := fun w a n c n' c' => Lib.run_eql_slice_nil w _ _ a n c n' c' Try.underlying68
  go_enter Try.func43, Try.ntmps43
  go_wp2
  go_ret
  exact ⟨rfl, rfl⟩
theorem RP.reads {w : World} {v : Value} {xs : List PS} (h : RP w v xs) : ∃ A c, v = .slice A xs.length c ∧ kP.C w A xs.length xs := by
  obtain ⟨A, c, e⟩ := h.slice
  subst e
  exact ⟨A, c, rfl, (Kd.R_reads' h).2.2⟩
theorem pclone_calls (w : World) (v : Value) (xs : List PS) (hrow : RP w v xs) (h8 : xs.length ≤ 1000000) :
    Calls Try.prog 43 #[v] w fun e w' => (∃ v', e = .returned v' ∧ RP w' v' xs ∧ ∀ k, v'.ownBlock = some k → w.heap.size ≤ k) ∧ Below w.heap.size w w' := by
  obtain ⟨A, c, rfl, hC⟩ := RP.reads hrow
  cases A with
  | some ad => exact Calls.mono (pclone_some w ad c xs hC h8) (fun e w' h => by obtain ⟨v', h1, h2, h3, h4⟩ := h; exact ⟨⟨v', h1, h2, h3⟩, h4⟩)
  | none =>
    refine Calls.mono (pclone_none w xs.length c) ?_
    rintro e w' ⟨rfl, rfl⟩
    have h0 : xs = [] := by
      rcases Nat.eq_zero_or_pos xs.length with q | q
      · exact List.length_eq_zero_iff.1 q
      · obtain ⟨_, e, _⟩ := hC.2.2 q
        cases e
    subst h0
    exact ⟨⟨_, rfl, RP.nil _, fun k hk => by simp [Value.ownBlock] at hk⟩, Below.refl _ _⟩
theorem map_equalIn_nil {P : Program} (w : World) (d : Nat) (t k e : TypeId) (p : Option Nat) (h : P.underlying t = some (.map k e)) : (Op.equalIn (d + 1) t (.map p) (.map none)).run P w = .ok p.isNone w := by
  cases p <;> simp [Op.equalIn, run_underlying h]
theorem map_eql_of {P : Program} (w : World) (t k e : TypeId) (p : Option Nat) (h : P.underlying t = some (.map k e)) : (binOp .eql t (.map p) (.map none)).run P w = .ok (.bool p.isNone) w := by
  simp only [binOp]
  simp [show Op.equal t (.map p) (.map none) = Op.equalIn (9999 + 1) t (.map p) (.map none) from rfl, map_equalIn_nil w 9999 t k e p h]
theorem map_assert_of {P : Program} (w : World) (t xT k e : TypeId) (v : Value) (h : P.underlying t = some (.map k e)) : (Instr.typeAssert (.iface t v) xT t false).run P w = .ok v w := by
  simp [Instr.typeAssert, run_underlying h, go_sem, Result.andThen]
theorem map_eql_nil (w : World) (p : Option Nat) : (binOp .eql 69 (.map p) (.map none)).run Try.prog w = .ok (.bool p.isNone) w := map_eql_of w _ _ _ p Try.underlying69
theorem map_assert (w : World) (v : Value) : (Instr.typeAssert (.iface 69 v) 20 69 false).run Try.prog w = .ok v w := map_assert_of w _ _ _ _ v Try.underlying69
theorem map_clone_run {P : Program} (w : World) {r : Nat} {es : Array MapEntry} {clock : Nat} (t : TypeId) (hb : w.heap[r]? = some (.map es clock)) :
    (Extern.MapsClone.clone #[.iface t (.map (some r))]).run P w = .ok (.iface t (.map (some w.heap.size))) (w.alloc (.map es clock)) := by
  have e : Extern.MapsClone.clone #[.iface t (.map (some r))] = (getObj r >>= fun o => match o with
      | .map entries clock => (newObj (.map entries clock) >>= fun n => pure (.iface t (.map (some n))))
      | _ => stuck "maps.clone: a map expected") := rfl
  rw [e]
  simp [MapKept.run_getObj_map hb, Result.andThen, go_sem]
set_option maxHeartbeats 1000000 in
set_option maxRecDepth 100000 in
theorem mclone_any (b : Nat) (es : Array MapEntry) (clock : Nat) (w : World) (hb : w.heap[b]? = some (.map es clock)) :
    Calls Try.prog 44 #[.map (some b)] w fun e w' => e = .returned (.map (some w.heap.size)) ∧ w' = w.alloc (.map es clock) := by
  have hq := fun w => map_eql_nil w (some b)
  go_enter Try.func44, Try.ntmps44
  go_wp2
  rw [run_callFunc_extern Try.func58 (by kernel_rfl) (by kernel_rfl) (by kernel_rfl) (e := Extern.MapsClone.clone) (by kernel_rfl), map_clone_run w 69 hb]
  simp only [Result.andThen]
  rw [Oper.upon_value]
  go_wp2
  rw [map_assert]
  simp only [Result.andThen]
  rw [Oper.upon_value]
  go_wp2
  go_ret
  exact ⟨rfl, rfl⟩
theorem mclone_calls {w : World} {mb : Nat} {st : St} (h : Names w mb st) :
    Calls Try.prog 44 #[.map (some mb)] w fun e w' => (∃ mb', e = .returned (.map (some mb')) ∧ Names w' mb' st ∧ w.heap.size ≤ mb') ∧ Below w.heap.size w w' := by
  obtain ⟨n, D, ⟨es, clock, hb, r⟩, h2⟩ := h
  refine (mclone_any mb es clock w hb).mono fun e w' ⟨he, hw⟩ => ?_
  subst hw
  exact ⟨⟨_, he, ⟨n, D, ⟨es, clock, (MapKept.heap_alloc w _).1, r⟩, h2⟩, Nat.le_refl _⟩, (Below.refl _ w).alloc (Nat.le_refl _) _⟩
end Go.Proofs.Ytefbcigccfkkgaa.WIf
namespace Go.Proofs.Ytefbcigccfkkgaa.WIf
open Go.RowKit Go.Maps Go.WideMaps Go.Proofs.Ytefbcigccfkkgaa.PBase Go.Proofs.YtefbcigccfkkgaaW.PrintWords Go.Proofs.YtefbcigccfkkgaaW.PrintLast Go.Proofs.YtefbcigccfkkgaaW.PrintMore Go.Proofs.Ytefbcigccfkkgaa.If
attribute [local go_sem] max2_int min2_int max_two min_two
theorem pw_free_below {w W : World} {a : Addr} (h : Below w.heap.size w W) (hf : w.frozen? a = false) (hlt : a.block < w.heap.size) : W.frozen? a = false := (h.frozen (p := a) hlt).trans hf
theorem store_step {P : Program} {ops : Array Oper} {o : Oper} {a : Act} {Q : Exit → Act → World → Prop} {Kc : Act → World → Prop} {W w1 : World} (hw : Region.wanted o (yielded ops a.tmps) = true) (hN : o.dst = none) (hrun : (execOp a.eval o).run P W = .ok .skip w1) (h : Kc a w1) :
    if Region.wanted o (yielded ops a.tmps) = true then Oper.wp P o a W Kc Q else Kc (a.put none undef) W := by
  rw [if_pos hw]
  unfold Oper.wp
  rw [hrun]
  show Kc (a.put o.dst undef) w1
  rw [hN]
  exact h
/-- A copy in the making: the first i ports have locals of their own. -/
structure Cp (w W : World) (st : St) (xs : List PS) (v : Value) (ys : List PS) (i : Nat) : Prop where mk ::
  (row : RP W v ys)
  (len : ys.length = xs.length)
  (old : ∀ (j : Nat) (x : PS), i ≤ j → xs[j]? = some x → ys[j]? = some x)
  (new : ∀ (j : Nat) (p : Pt) (y : PS), j < i → st[j]? = some p → ys[j]? = some y → Like W p y ∧ ∀ k, (sv y.l).ownBlock = some k → w.heap.size ≤ k)
  (sep : ∀ (j1 j2 : Nat) (x y : PS), j1 < i → j2 < i → j1 ≠ j2 → ys[j1]? = some x → ys[j2]? = some y → ∀ k, (sv x.l).ownBlock = some k → (sv y.l).ownBlock ≠ some k)
section
variable {w W W1 : World} {st : St} {xs ys : List PS} {v : Value} {i : Nat}
theorem Cp.below (h : Cp w W st xs v ys i) (hb : Below W.heap.size W W1) : Cp w W1 st xs v ys i where
  row := h.row.keep (fun k hk => hb.block k (h.row.lt k hk))
  len := h.len
  old := h.old
  new := fun j p y hj hp hy => ⟨⟨(h.new j p y hj hp hy).1.1, (h.new j p y hj hp hy).1.2.keep (fun k hk => hb.block k ((h.new j p y hj hp hy).1.2.lt k hk))⟩, (h.new j p y hj hp hy).2⟩
  sep := h.sep
theorem cp_step (h : Cp w W st xs v ys i) {pb n c : Nat} (hv : v = .slice (some ⟨pb, 0, none⟩) n c) {p : Pt} {x : PS} (hp : st[i]? = some p) (hx : xs[i]? = some x) (hs : x.s = ⟨p.nm, p.mac, p.mtu, p.up⟩) {A : Option Addr} {m cc : Nat}
    (hl : RL W1 (.slice A m cc) p.ls) (hk : ∀ k, (Value.slice A m cc).ownBlock = some k → W.heap.size ≤ k) (hb : Below W.heap.size W W1) (hw : w.heap.size ≤ W.heap.size) :
    Cp w (W1.setCell ⟨pb, i * 5 + 4, none⟩ (.slice A m cc)) st xs v (ys.set i ⟨x.s, ⟨A, m, cc⟩⟩) (i + 1) := by
  subst hv
  have h1 := h.below hb
  obtain ⟨cp, hcp⟩ := h1.row.typed pb rfl
  have far : ∀ k, k ≠ pb → (W1.setCell ⟨pb, i * 5 + 4, none⟩ (.slice A m cc)).heap[k]? = W1.heap[k]? := fun k hk => Below.heap_setCell W1 _ _ k hk
  have hne : ∀ (k : Nat), (∃ cs : Array Value, W1.heap[k]? = some (.cells cs 34 (0, 0))) → k ≠ pb := fun k ⟨cs, hk⟩ => typed_ne hk hcp (by decide)
  have hy := h1.old i x (Nat.le_refl _) hx
  have hi : i < ys.length := (List.getElem?_eq_some_iff.1 hy).1
  have hset : ∀ (j : Nat) (y : PS), (ys.set i ⟨x.s, ⟨A, m, cc⟩⟩)[j]? = some y → (j = i ∧ y = ⟨x.s, ⟨A, m, cc⟩⟩) ∨ (j ≠ i ∧ ys[j]? = some y) := fun j y hj => by
    rw [List.getElem?_set] at hj
    by_cases e : i = j
    · subst e
      rw [if_pos rfl, if_pos hi] at hj
      exact .inl ⟨rfl, (Option.some.inj hj).symm⟩
    · rw [if_neg e] at hj
      exact .inr ⟨fun q => e q.symm, hj⟩
  refine ⟨?_, by rw [List.length_set]; exact h1.len, ?_, ?_, ?_⟩
  · exact RP.set h1.row (x' := ⟨x.s, ⟨A, m, cc⟩⟩) (u := .slice A m cc) hy (j := 4) (by decide) rfl
  · intro j z hj hz
    rw [List.getElem?_set, if_neg (by omega)]
    exact h1.old j z (by omega) hz
  · intro j q y hj hq hyj
    rcases hset j y hyj with ⟨rfl, rfl⟩ | ⟨hji, hy2⟩
    · obtain rfl := Option.some.inj (hp.symm.trans hq)
      exact ⟨⟨hs, hl.keep (fun k hk2 => far k (hne k (hl.typed k hk2)))⟩, fun k hk2 => Nat.le_trans hw (hk k hk2)⟩
    · obtain ⟨g1, g2⟩ := h1.new j q y (by omega) hq hy2
      exact ⟨⟨g1.1, g1.2.keep (fun k hk2 => far k (hne k (g1.2.typed k hk2)))⟩, g2⟩
  · intro j1 j2 a b h1j h2j hne12 ha hbb k hka hkb
    have hlt : ∀ (j : Nat) (y : PS), j ≠ i → j < i + 1 → ys[j]? = some y → ∀ k, (sv y.l).ownBlock = some k → k < W.heap.size := fun j y hji hj hyj k hky => by
      have hjy : j < ys.length := (List.getElem?_eq_some_iff.1 hyj).1
      by_cases hjs : j < st.length
      · exact (h.new j st[j] y (by omega) (List.getElem?_eq_getElem hjs) hyj).1.2.lt k hky
      · have := (List.getElem?_eq_some_iff.1 hp).1
        omega
    rcases hset j1 a ha with ⟨rfl, rfl⟩ | ⟨hj1, ha2⟩
    · rcases hset j2 b hbb with ⟨rfl, rfl⟩ | ⟨hj2, hb2⟩
      · exact hne12 rfl
      · have := hk k hka
        have := hlt j2 b hj2 h2j hb2 k hkb
        omega
    · rcases hset j2 b hbb with ⟨rfl, rfl⟩ | ⟨hj2, hb2⟩
      · have := hk k hkb
        have := hlt j1 a hj1 h1j ha2 k hka
        omega
      · exact h1.sep j1 j2 a b (by omega) (by omega) hne12 ha2 hb2 k hka hkb
theorem cp_done {ob mb : Nat} (h : Cp w W st xs v ys st.length) (hlen : xs.length = st.length) (hob : W.heap[ob]? = some (.cells #[v, .map (some mb)] 71 (0, 0))) (hob2 : w.heap.size ≤ ob) (hn : Names W mb st) (hmb : w.heap.size ≤ mb) (hv : ∀ k, v.ownBlock = some k → w.heap.size ≤ k) :
    ∃ S, Mem W S ob mb v ys st ∧ ∀ k, S k → w.heap.size ≤ k := by
  have hyl : ∀ x ∈ ys, ∃ (j : Nat) (p : Pt), j < st.length ∧ st[j]? = some p ∧ ys[j]? = some x := fun x hx => by
    obtain ⟨j, hj⟩ := List.mem_iff_getElem?.1 hx
    have h1 := (List.getElem?_eq_some_iff.1 hj).1
    have h2 := h.len
    exact ⟨j, st[j]'(by omega), by omega, List.getElem?_eq_getElem _, hj⟩
  refine ⟨fun k => k = ob ∨ k = mb ∨ v.ownBlock = some k ∨ ∃ y ∈ ys, (sv y.l).ownBlock = some k, ⟨hob, h.row, by rw [h.len]; exact hlen, fun i p x hp hx => (h.new i p x (List.getElem?_eq_some_iff.1 hp).1 hp hx).1, ?_, hn, ⟨.inl rfl, .inr (.inl rfl), fun k hk => .inr (.inr (.inl hk)), fun x hx k hk => .inr (.inr (.inr ⟨x, hx, hk⟩))⟩, ?_⟩, ?_⟩
  · intro i j x y hij hx hy
    have h1 := (List.getElem?_eq_some_iff.1 hx).1
    have h2 := (List.getElem?_eq_some_iff.1 hy).1
    have h3 := h.len
    exact h.sep i j x y (by omega) (by omega) hij hx hy
  · rintro k (rfl | rfl | hk | ⟨y, hy, hk⟩)
    · exact blk_lt hob
    · obtain ⟨n, D, ho, _⟩ := hn
      exact ho.lt
    · exact h.row.lt k hk
    · obtain ⟨j, p, h1, h2, h3⟩ := hyl y hy
      exact (h.new j p y h1 h2 h3).1.2.lt k hk
  · rintro k (rfl | rfl | hk | ⟨y, hy, hk⟩)
    · exact hob2
    · exact hmb
    · exact hv k hk
    · obtain ⟨j, p, h1, h2, h3⟩ := hyl y hy
      exact (h.new j p y h1 h2 h3).2 k hk
end
section
variable {w : World} {S : Nat → Prop} {sb mb : Nat} {v : Value} {xs : List PS} {st : St}
set_option maxHeartbeats 4000000 in
set_option maxRecDepth 100000 in
theorem copy_calls (h : Mem w S sb mb v xs st) (hI : Inv st) :
    Calls Try.prog 22 #[.pointer (some ⟨sb, 0, none⟩)] w fun e w' => (∃ ob mb' v' ys S', e = .returned (.pointer (some ⟨ob, 0, none⟩)) ∧ Mem w' S' ob mb' v' ys st ∧ ∀ k, S' k → w.heap.size ≤ k) ∧ Below w.heap.size w w' := by
  have HM := Aside0.mk h
  have h8 := hI.few
  have HI := Aside0.mk hI
  have HX8 := Aside0.mk (show xs.length ≤ 1000000 by have := h.len; omega)
  obtain ⟨x0, x1⟩ := MBlk.c2 h.blk
  have H8 := Aside0.mk h8
  have HMB := Aside0.mk (show mb < w.drew.heap.size from h.lt mb h.its.2.1)
  have HLN := Aside0.mk h.len
  clear h hI h8
  go_enter Try.func22, Try.ntmps22
  go_wp2_with fail
  refine start_ (n := 13) (S := fun W => W.cell? ⟨sb, 0, none⟩ = some (v) ∧ W.cell? ⟨sb, 1, none⟩ = some (.map (some mb))) (ds := [11]) #[false, false, false, false, false, false, false, false, false, false, false, false, false] (by kernel_rfl) rfl rfl ⟨x0, x1⟩ (fun hHeld => ?_)
  refine pure_ (i := 0) (N := some 5) (v := ?_) (a' := ?_) #[true, false, false, false, false, false, false, false, false, false, false, false, false] rfl rfl (by kernel_rfl) (fun _ _ _ h => h) (Or.inl ⟨by rfl, ?_⟩) ?_ ?_
  rotate_left
  ·
   intro w'
   go_simp
   with_reducible rfl
  rotate_left
  ·
   simp only [Act.put, List.setIfInBounds_toArray, List.set_cons_zero, List.set_cons_succ, i64_w, i32_w]
   rfl
  refine pure_ (i := 1) (N := some 6) (v := ?_) (a' := ?_) #[true, true, false, false, false, false, false, false, false, false, false, false, false] rfl rfl (by kernel_rfl) (fun _ _ _ h => h) (Or.inl ⟨by rfl, ?_⟩) ?_ ?_
  rotate_left
  ·
   intro w'
   go_simp
   with_reducible rfl
  rotate_left
  ·
   simp only [Act.put, List.setIfInBounds_toArray, List.set_cons_zero, List.set_cons_succ, i64_w, i32_w]
   rfl
  refine pure_ (i := 2) (N := some 7) (v := ?_) (a' := ?_) #[true, true, true, false, false, false, false, false, false, false, false, false, false] rfl rfl (by kernel_rfl) (fun _ _ _ h => h) (Or.inl ⟨by rfl, ?_⟩) ?_ ?_
  rotate_left
  ·
   intro w'
   go_simp
   with_reducible rfl
  rotate_left
  ·
   simp only [Act.put, List.setIfInBounds_toArray, List.set_cons_zero, List.set_cons_succ, i64_w, i32_w]
   rfl
  refine take_ (i := 3) (N := some 8) (v := ?_) (a' := ?_) #[true, true, true, true, false, false, false, false, false, false, false, false, false] rfl rfl (by kernel_rfl) (fun _ _ _ h => h) (Or.inl ⟨by rfl, ?_⟩) hHeld ?_ ?_
  rotate_left
  ·
   rintro w' ⟨s0, s1⟩
   go_simp
   with_reducible rfl
  rotate_left
  ·
   simp only [Act.put, List.setIfInBounds_toArray, List.set_cons_zero, List.set_cons_succ, i64_w, i32_w]
   rfl
  refine pure_ (i := 5) (N := some 10) (v := ?_) (a' := ?_) #[true, true, true, true, false, true, false, false, false, false, false, false, false] rfl rfl (by kernel_rfl) (fun _ _ _ h => h) (Or.inl ⟨by rfl, ?_⟩) ?_ ?_
  rotate_left
  ·
   intro w'
   go_simp
   with_reducible rfl
  rotate_left
  ·
   simp only [Act.put, List.setIfInBounds_toArray, List.set_cons_zero, List.set_cons_succ, i64_w, i32_w]
   rfl
  refine pure_ (i := 6) (N := some 11) (v := ?_) (a' := ?_) #[true, true, true, true, false, true, true, false, false, false, false, false, false] rfl rfl (by kernel_rfl) (fun _ _ _ h => h) (Or.inl ⟨by rfl, ?_⟩) ?_ ?_
  rotate_left
  ·
   intro w'
   go_simp
   with_reducible rfl
  rotate_left
  ·
   simp only [Act.put, List.setIfInBounds_toArray, List.set_cons_zero, List.set_cons_succ, i64_w, i32_w]
   rfl
  refine pure_ (i := 7) (N := some 12) (v := ?_) (a' := ?_) #[true, true, true, true, false, true, true, true, false, false, false, false, false] rfl rfl (by kernel_rfl) (fun _ _ _ h => h) (Or.inl ⟨by rfl, ?_⟩) ?_ ?_
  rotate_left
  ·
   intro w'
   go_simp
   with_reducible rfl
  rotate_left
  ·
   simp only [Act.put, List.setIfInBounds_toArray, List.set_cons_zero, List.set_cons_succ, i64_w, i32_w]
   rfl
  refine take_ (i := 8) (N := some 13) (v := ?_) (a' := ?_) #[true, true, true, true, false, true, true, true, true, false, false, false, false] rfl rfl (by kernel_rfl) (fun _ _ _ h => h) (Or.inl ⟨by rfl, ?_⟩) hHeld ?_ ?_
  rotate_left
  ·
   rintro w' ⟨s0, s1⟩
   go_simp
   with_reducible rfl
  rotate_left
  ·
   simp only [Act.put, List.setIfInBounds_toArray, List.set_cons_zero, List.set_cons_succ, i64_w, i32_w]
   rfl
  refine one_ (i := 4) (N := some 9) #[true, true, true, true, true, true, true, true, true, false, false, false, false] rfl rfl (by kernel_rfl) (by decide) (fun K hK => ?_)
  refine goes_ Try.func43 (by kernel_rfl) rfl #[v] (by rfl) rfl rfl (by (try simp only [List.map_toArray, List.map_cons, List.map_nil]); first | done | rfl) ?_
  with_reducible refine (pclone_calls w.drew v xs (HM.out.row.keep (fun k hk => rfl)) HX8.out).mono ?_
  rintro e w1 ⟨⟨v', rfl, hr, hk⟩, hb⟩
  obtain ⟨A1, c1, e1⟩ := hr.slice
  rw [HLN.out] at e1
  subst e1
  refine ⟨_, rfl, ?_⟩
  have HR := Aside0.mk (And.intro hr hk)
  have HB1 := Aside0.mk hb
  have HBW1 := Aside0.mk (show Below w.heap.size w w1 from ⟨hb.os, hb.tape, hb.output, hb.size, hb.block⟩)
  refine hK.out _ _ ⟨pw_cell_below hb hHeld.1, pw_cell_below hb hHeld.2⟩ (fun hHeld => ?_)
  clear hr hk hb hK K
  refine norm_ (a' := ?_) ?_ ?_
  rotate_left
  ·
    show Act.put _ (some 9) _ = _
    simp only [Act.put, List.setIfInBounds_toArray, List.set_cons_zero, List.set_cons_succ, i64_w, i32_w]
    rfl
  refine one_ (i := 9) (N := some 14) #[true, true, true, true, true, true, true, true, true, true, false, false, false] rfl rfl (by kernel_rfl) (by decide) (fun K hK => ?_)
  refine goes_ Try.func44 (by kernel_rfl) rfl #[.map (some mb)] (by rfl) rfl rfl (by (try simp only [List.map_toArray, List.map_cons, List.map_nil]); first | done | rfl) ?_
  with_reducible refine (mclone_calls (w := w1) (st := st) (HM.out.map.keep (HBW1.out.block mb (HM.out.lt mb HM.out.its.2.1)))).mono ?_
  rintro e w2 ⟨⟨mb', rfl, hn, hk⟩, hb⟩
  refine ⟨_, rfl, ?_⟩
  have HNM := Aside0.mk (And.intro hn hk)
  have HB2 := Aside0.mk hb
  refine hK.out _ _ ⟨pw_cell_below hb hHeld.1, pw_cell_below hb hHeld.2⟩ (fun hHeld => ?_)
  clear hn hk hb hK K
  refine norm_ (a' := ?_) ?_ ?_
  rotate_left
  ·
    show Act.put _ (some 14) _ = _
    simp only [Act.put, List.setIfInBounds_toArray, List.set_cons_zero, List.set_cons_succ, i64_w, i32_w]
    rfl
  refine pure_ (i := 10) (N := some 15) (v := ?_) (a' := ?_) #[true, true, true, true, true, true, true, true, true, true, true, false, false] rfl rfl (by kernel_rfl) (fun _ _ _ h => h) (Or.inl ⟨by rfl, ?_⟩) ?_ ?_
  rotate_left
  ·
   intro w'
   go_simp
   with_reducible rfl
  rotate_left
  ·
   simp only [Act.put, List.setIfInBounds_toArray, List.set_cons_zero, List.set_cons_succ, i64_w, i32_w]
   rfl
  refine last_ (i := 11) (N := some 16) #[true, true, true, true, true, true, true, true, true, true, true, true, false] rfl rfl (by kernel_rfl) (by decide) (fun K hK => ?_)
  refine box_step (by rfl) rfl (cs := #[.slice A1 st.length c1, .map (some mb')]) (t := 71) (by first | (go_simp; done) | (go_simp; rfl)) ?_
  intro ob hob w3 hbox hb
  have HOB := Aside0.mk (And.intro hob hbox)
  have HB3 := Aside0.mk hb
  refine hK.out _ _ ?_
  clear hob hbox hb hK K
  refine norm_ (a' := ?_) ?_ ?_
  rotate_left
  ·
    show Act.put _ (some 16) _ = _
    simp only [Act.put, List.setIfInBounds_toArray, List.set_cons_zero, List.set_cons_succ, i64_w, i32_w]
    rfl
  refine pure_ (i := 12) (N := some 3) (v := ?_) (a' := ?_) #[true, true, true, true, true, true, true, true, true, true, true, true, true] rfl rfl (by kernel_rfl) (fun _ _ _ h => h) (Or.inl ⟨by rfl, ?_⟩) ?_ ?_
  rotate_left
  ·
   intro w'
   go_simp
   with_reducible rfl
  rotate_left
  ·
   simp only [Act.put, List.setIfInBounds_toArray, List.set_cons_zero, List.set_cons_succ, i64_w, i32_w]
   rfl
  refine done_ (by kernel_rfl) ?_
  have HB := Aside0.mk (below_step (below_step HBW1.out HB2.out) HB3.out)
  have HCP := Aside0.mk (show Cp w w3 st xs (.slice A1 st.length c1) xs 0 from ⟨(HR.out.1.keep (fun k hk => HB2.out.block k (HR.out.1.lt k hk))).keep (fun k hk => HB3.out.block k (Nat.lt_of_lt_of_le (HR.out.1.lt k hk) HB2.out.size)), rfl, fun _ _ _ h => h, fun j _ _ hj => by omega, fun j _ _ _ hj => by omega⟩)
  have BK := Aside0.mk HOB.out.2
  have HNM3 := Aside0.mk (show Names w3 mb' st from HNM.out.1.keep (HB3.out.block mb' (by obtain ⟨n, D, ho, _⟩ := HNM.out.1; exact ho.lt)))
  have HFR := Aside0.mk (show w.heap.size ≤ ob ∧ w.heap.size ≤ mb' ∧ ∀ k, (Value.slice A1 st.length c1).ownBlock = some k → w.heap.size ≤ k from ⟨by have := HOB.out.1; have := (below_step HBW1.out HB2.out).size; omega, Nat.le_trans HBW1.out.size HNM.out.2, HR.out.2⟩)
  obtain ⟨o0, o1⟩ := MBlk.c2 BK.out
  clear HOB HB1 HB2 HB3 HBW1 HNM HR hHeld x0 x1
  go_wp2_with fail
  clear o0 o1
  go_loopg [22] st.length (fun kq v22 w' => ∃ (i : Nat) (ys : List PS), v22 = .int .i64 (i : Int) ∧ Aside0 (i + kq = st.length) ∧ Aside0 (Cp w w' st xs (.slice A1 st.length c1) ys i) ∧ Aside0 (w'.heap[ob]? = some (.cells #[.slice A1 st.length c1, .map (some mb')] 71 (0, 0))) ∧ Aside0 (Names w' mb' st) ∧ Aside0 (Below w.heap.size w w'))
  case atStart => exact ⟨0, xs, rfl, ⟨by omega⟩, HCP, BK, HNM3, HB⟩
  case round =>
    clear HCP BK HNM3 HB
    obtain ⟨i, ys, rfl, HK, HCP, BK, HNM, HB⟩ := hrel
    obtain ⟨y, hy⟩ : ∃ y : Int, (i : Int) = y := ⟨_, rfl⟩
    have h8 := H8.out
    by_cases hi : i < st.length
    · obtain ⟨p, hp⟩ : ∃ p, st[i]? = some p := ⟨_, List.getElem?_eq_getElem hi⟩
      obtain ⟨x, hx⟩ : ∃ x, xs[i]? = some x := ⟨_, List.getElem?_eq_getElem (by have := HLN.out; omega)⟩
      have hyx := HCP.out.old i x (Nat.le_refl _) hx
      obtain ⟨pb, c', e⟩ := HCP.out.row.shape (by have := (List.getElem?_eq_some_iff.1 hyx).1; omega)
      injection e with e1 en e2
      subst e1
      clear en e2
      obtain ⟨l0, lf⟩ := HCP.out.row.cell hyx (j := 4) (u := .slice x.l.a x.l.n x.l.c) rfl
      replace l0 : wr.drew.cell? ⟨pb, i * 5 + 4, none⟩ = some (.slice x.l.a x.l.n x.l.c) := l0
      replace lf : wr.drew.frozen? ⟨pb, i * 5 + 4, none⟩ = false := lf
      have HPB := Aside0.mk (show pb < wr.drew.heap.size from HCP.out.row.lt pb rfl)
      have hlk := HM.out.like i p x hp hx
      have HLS := Aside0.mk hlk.1
      have hcl := clone_calls wr.drew (.slice x.l.a x.l.n x.l.c) p.ls (hlk.2.keep (fun k hk => HB.out.block k (hlk.2.lt k hk))) (by have := (HI.out.rows p (List.mem_of_getElem? hp)).1; omega)
      have HP := Aside0.mk hp
      have HX := Aside0.mk hx
      obtain ⟨o0, o1⟩ := MBlk.c2 BK.out
      have hyi : y.toNat = i := by omega
      have z1 : (0 ≤ y) = True := eq_true (by omega)
      have q1 : (y < (st.length : Int)) = True := eq_true (by omega)
      have b1 : decide (y < (st.length : Int)) = true := decide_eq_true (by omega)
      have hyw : wrap64 (y + 1) = ((i + 1 : Nat) : Int) := by unfold wrap64; omega
      have HYW := Aside0.mk hyw
      have HY := Aside0.mk hy
      obtain ⟨gk, rfl⟩ : ∃ q, gk = q + 1 := ⟨gk - 1, by have := HK.out; omega⟩
      rw [hy]
      clear hy hyw hp hx hyx hi hlk h8
      go_wp2_with fail
      refine start_ (n := 17) (S := fun W => W.cell? ⟨ob, 0, none⟩ = some (.slice (some ⟨pb, 0, none⟩) st.length c1) ∧ W.cell? ⟨pb, i * 5 + 4, none⟩ = some (.slice x.l.a x.l.n x.l.c)) (ds := [16]) #[false, false, false, false, false, false, false, false, false, false, false, false, false, false, false, false, false] (by kernel_rfl) rfl rfl ⟨o0, l0⟩ (fun hHeld => ?_)
      refine pure_ (i := 0) (N := some 25) (v := ?_) (a' := ?_) #[true, false, false, false, false, false, false, false, false, false, false, false, false, false, false, false, false] rfl rfl (by kernel_rfl) (fun _ _ _ h => h) (Or.inl ⟨by rfl, ?_⟩) ?_ ?_
      rotate_left
      ·
       intro w'
       go_simp
       with_reducible rfl
      rotate_left
      ·
       simp only [Act.put, List.setIfInBounds_toArray, List.set_cons_zero, List.set_cons_succ, i64_w, i32_w]
       rfl
      refine pure_ (i := 1) (N := some 26) (v := ?_) (a' := ?_) #[true, true, false, false, false, false, false, false, false, false, false, false, false, false, false, false, false] rfl rfl (by kernel_rfl) (fun _ _ _ h => h) (Or.inl ⟨by rfl, ?_⟩) ?_ ?_
      rotate_left
      ·
       intro w'
       go_simp
       with_reducible rfl
      rotate_left
      ·
       simp only [Act.put, List.setIfInBounds_toArray, List.set_cons_zero, List.set_cons_succ, i64_w, i32_w]
       rfl
      refine pure_ (i := 2) (N := some 27) (v := ?_) (a' := ?_) #[true, true, true, false, false, false, false, false, false, false, false, false, false, false, false, false, false] rfl rfl (by kernel_rfl) (fun _ _ _ h => h) (Or.inl ⟨by rfl, ?_⟩) ?_ ?_
      rotate_left
      ·
       intro w'
       go_simp
       with_reducible rfl
      rotate_left
      ·
       simp only [Act.put, List.setIfInBounds_toArray, List.set_cons_zero, List.set_cons_succ, i64_w, i32_w]
       rfl
      refine take_ (i := 3) (N := some 28) (v := ?_) (a' := ?_) #[true, true, true, true, false, false, false, false, false, false, false, false, false, false, false, false, false] rfl rfl (by kernel_rfl) (fun _ _ _ h => h) (Or.inl ⟨by rfl, ?_⟩) hHeld ?_ ?_
      rotate_left
      ·
       rintro w' ⟨s0, s1⟩
       go_simp
       with_reducible rfl
      rotate_left
      ·
       simp only [Act.put, List.setIfInBounds_toArray, List.set_cons_zero, List.set_cons_succ, i64_w, i32_w]
       rfl
      refine pure_ (i := 4) (N := some 29) (v := ?_) (a' := ?_) #[true, true, true, true, true, false, false, false, false, false, false, false, false, false, false, false, false] rfl rfl (by kernel_rfl) (fun _ _ _ h => h) (Or.inl ⟨by rfl, ?_⟩) ?_ ?_
      rotate_left
      ·
       intro w'
       go_simp
       with_reducible rfl
      rotate_left
      ·
       simp only [Act.put, List.setIfInBounds_toArray, List.set_cons_zero, List.set_cons_succ, i64_w, i32_w]
       rfl
      refine pure_ (i := 5) (N := some 30) (v := ?_) (a' := ?_) #[true, true, true, true, true, true, false, false, false, false, false, false, false, false, false, false, false] rfl rfl (by kernel_rfl) (fun _ _ _ h => h) (Or.inl ⟨by rfl, ?_⟩) ?_ ?_
      rotate_left
      ·
       intro w'
       go_simp
       with_reducible rfl
      rotate_left
      ·
       simp only [Act.put, List.setIfInBounds_toArray, List.set_cons_zero, List.set_cons_succ, i64_w, i32_w]
       rfl
      refine pure_ (i := 6) (N := some 31) (v := ?_) (a' := ?_) #[true, true, true, true, true, true, true, false, false, false, false, false, false, false, false, false, false] rfl rfl (by kernel_rfl) (fun _ _ _ h => h) (Or.inl ⟨by rfl, ?_⟩) ?_ ?_
      rotate_left
      ·
       intro w'
       go_simp
       with_reducible rfl
      rotate_left
      ·
       simp only [Act.put, List.setIfInBounds_toArray, List.set_cons_zero, List.set_cons_succ, i64_w, i32_w]
       rfl
      refine pure_ (i := 7) (N := some 32) (v := ?_) (a' := ?_) #[true, true, true, true, true, true, true, true, false, false, false, false, false, false, false, false, false] rfl rfl (by kernel_rfl) (fun _ _ _ h => h) (Or.inl ⟨by rfl, ?_⟩) ?_ ?_
      rotate_left
      ·
       intro w'
       go_simp
       with_reducible rfl
      rotate_left
      ·
       simp only [Act.put, List.setIfInBounds_toArray, List.set_cons_zero, List.set_cons_succ, i64_w, i32_w]
       rfl
      refine take_ (i := 8) (N := some 33) (v := ?_) (a' := ?_) #[true, true, true, true, true, true, true, true, true, false, false, false, false, false, false, false, false] rfl rfl (by kernel_rfl) (fun _ _ _ h => h) (Or.inl ⟨by rfl, ?_⟩) hHeld ?_ ?_
      rotate_left
      ·
       rintro w' ⟨s0, s1⟩
       go_simp
       with_reducible rfl
      rotate_left
      ·
       simp only [Act.put, List.setIfInBounds_toArray, List.set_cons_zero, List.set_cons_succ, i64_w, i32_w]
       rfl
      refine pure_ (i := 9) (N := some 34) (v := ?_) (a' := ?_) #[true, true, true, true, true, true, true, true, true, true, false, false, false, false, false, false, false] rfl rfl (by kernel_rfl) (fun _ _ _ h => h) (Or.inl ⟨by rfl, ?_⟩) ?_ ?_
      rotate_left
      ·
       intro w'
       go_simp
       with_reducible rfl
      rotate_left
      ·
       simp only [Act.put, List.setIfInBounds_toArray, List.set_cons_zero, List.set_cons_succ, i64_w, i32_w]
       rfl
      refine pure_ (i := 10) (N := some 35) (v := ?_) (a' := ?_) #[true, true, true, true, true, true, true, true, true, true, true, false, false, false, false, false, false] rfl rfl (by kernel_rfl) (fun _ _ _ h => h) (Or.inl ⟨by rfl, ?_⟩) ?_ ?_
      rotate_left
      ·
       intro w'
       go_simp
       with_reducible rfl
      rotate_left
      ·
       simp only [Act.put, List.setIfInBounds_toArray, List.set_cons_zero, List.set_cons_succ, i64_w, i32_w]
       rfl
      refine pure_ (i := 11) (N := some 36) (v := ?_) (a' := ?_) #[true, true, true, true, true, true, true, true, true, true, true, true, false, false, false, false, false] rfl rfl (by kernel_rfl) (fun _ _ _ h => h) (Or.inl ⟨by rfl, ?_⟩) ?_ ?_
      rotate_left
      ·
       intro w'
       go_simp
       with_reducible rfl
      rotate_left
      ·
       simp only [Act.put, List.setIfInBounds_toArray, List.set_cons_zero, List.set_cons_succ, i64_w, i32_w]
       rfl
      refine take_ (i := 12) (N := some 37) (v := ?_) (a' := ?_) #[true, true, true, true, true, true, true, true, true, true, true, true, true, false, false, false, false] rfl rfl (by kernel_rfl) (fun _ _ _ h => h) (Or.inl ⟨by rfl, ?_⟩) hHeld ?_ ?_
      rotate_left
      ·
       rintro w' ⟨s0, s1⟩
       go_simp
       with_reducible rfl
      rotate_left
      ·
       simp only [Act.put, List.setIfInBounds_toArray, List.set_cons_zero, List.set_cons_succ, i64_w, i32_w]
       rfl
      refine one_ (i := 13) (N := some 38) #[true, true, true, true, true, true, true, true, true, true, true, true, true, true, false, false, false] rfl rfl (by kernel_rfl) (by decide) (fun K hK => ?_)
      refine goes_ Try.func29 (by kernel_rfl) rfl #[.slice x.l.a x.l.n x.l.c] (by rfl) rfl rfl (by (try simp only [List.map_toArray, List.map_cons, List.map_nil]); first | done | rfl) ?_
      with_reducible refine hcl.mono ?_
      rintro e w5 ⟨v2, rfl, hr, hk, hb⟩
      obtain ⟨A2, c2, rfl⟩ := hr.slice
      refine ⟨_, rfl, ?_⟩
      have HR5 := Aside0.mk (And.intro hr hk)
      refine hK.out _ _ ⟨pw_cell_below hb hHeld.1, pw_cell_below hb hHeld.2⟩ (fun hHeld => ?_)
      replace lf := pw_free_below hb lf HPB.out
      have HB5 := Aside0.mk (show Below wr.heap.size wr w5 from ⟨hb.os, hb.tape, hb.output, hb.size, hb.block⟩)
      clear hr hk hb hK K
      refine norm_ (a' := ?_) ?_ ?_
      rotate_left
      ·
        show Act.put _ (some 38) _ = _
        simp only [Act.put, List.setIfInBounds_toArray, List.set_cons_zero, List.set_cons_succ, i64_w, i32_w]
        rfl
      refine pure_ (i := 14) (N := some 39) (v := ?_) (a' := ?_) #[true, true, true, true, true, true, true, true, true, true, true, true, true, true, true, false, false] rfl rfl (by kernel_rfl) (fun _ _ _ h => h) (Or.inl ⟨by rfl, ?_⟩) ?_ ?_
      rotate_left
      ·
       intro w'
       go_simp
       with_reducible rfl
      rotate_left
      ·
       simp only [Act.put, List.setIfInBounds_toArray, List.set_cons_zero, List.set_cons_succ, i64_w, i32_w]
       rfl
      refine pure_ (i := 15) (N := some 40) (v := ?_) (a' := ?_) #[true, true, true, true, true, true, true, true, true, true, true, true, true, true, true, true, false] rfl rfl (by kernel_rfl) (fun _ _ _ h => h) (Or.inl ⟨by rfl, ?_⟩) ?_ ?_
      rotate_left
      ·
       intro w'
       go_simp
       with_reducible rfl
      rotate_left
      ·
       simp only [Act.put, List.setIfInBounds_toArray, List.set_cons_zero, List.set_cons_succ, i64_w, i32_w]
       rfl
      refine last_ (i := 16) (N := none) #[true, true, true, true, true, true, true, true, true, true, true, true, true, true, true, true, true] rfl rfl (by kernel_rfl) (by decide) (fun K hK => ?_)
      have l1 := hHeld.2
      refine store_step (by rfl) rfl (w1 := w5.setCell ⟨pb, i * 5 + 4, none⟩ (.slice A2 p.ls.length c2)) (by first | (go_simp; done) | (go_simp; rfl)) ?_
      refine hK.out _ _ ?_
      clear hK K l1
      refine done_ (by kernel_rfl) ?_
      go_wp2
      go_roundg gk
      case measure => omega
      case rel => exact ⟨i + 1, _, by first | rw [HYW.out] | exact congrArg _ (by have := HY.out; omega), ⟨by have := HK.out; omega⟩, ⟨cp_step HCP.out rfl HP.out HX.out HLS.out HR5.out.1 HR5.out.2 HB5.out HB.out.size⟩,
        ⟨(Below.heap_setCell w5 _ _ ob (typed_ne (blk_below BK.out HB5.out) (Classical.choose_spec ((HCP.out.below HB5.out).row.typed pb rfl)) (by decide))).trans (blk_below BK.out HB5.out)⟩,
        ⟨(HNM.out.keep (HB5.out.block mb' (by obtain ⟨n, D, ho, _⟩ := HNM.out; exact ho.lt))).keep (Below.heap_setCell w5 _ _ mb' (fun e => by
          obtain ⟨n, D, ⟨es, clock, hh, _⟩, _⟩ := HNM.out.keep (HB5.out.block mb' (by obtain ⟨n, D, ho, _⟩ := HNM.out; exact ho.lt))
          obtain ⟨cs, hc⟩ := (HCP.out.below HB5.out).row.typed pb rfl
          rw [show mb' = pb from e, hc] at hh
          cases hh))⟩,
        ⟨below_set (below_step HB.out HB5.out) (HFR.out.2.2 pb rfl)⟩⟩
    · have hin : i = st.length := by have := HK.out; omega
      subst hin
      have b1 : decide (y < (st.length : Int)) = false := decide_eq_false (by omega)
      obtain ⟨S2, hM2, hS2⟩ := cp_done HCP.out HLN.out BK.out HFR.out.1 HNM.out HFR.out.2.1 HFR.out.2.2
      have HM2 := Aside0.mk hM2
      have HS2 := Aside0.mk hS2
      rw [hy]
      clear hy hi h8 hM2 hS2
      go_wp2
      go_ret
      exact ⟨⟨ob, mb', _, ys, S2, rfl, HM2.out, HS2.out⟩, HB.out⟩
end
end Go.Proofs.Ytefbcigccfkkgaa.WIf
namespace Go.Proofs.Ytefbcigccfkkgaa.WIf
open Go.RowKit Go.Maps Go.WideMaps Go.Proofs.Ytefbcigccfkkgaa.PBase Go.Proofs.YtefbcigccfkkgaaW.PrintWords Go.Proofs.YtefbcigccfkkgaaW.PrintLast Go.Proofs.YtefbcigccfkkgaaW.PrintMore Go.Proofs.Ytefbcigccfkkgaa.If
attribute [local go_sem] max2_int min2_int max_two min_two
/-- A copy of the document's in the making: i rows of locals are laid. -/
structure Dcp (w W : World) (st : St) (v : Value) (ys : List Sl) (i : Nat) : Prop where mk ::
  (row : RowK kSl 31 W v ys)
  (len : ys.length = i)
  (own : ∀ k, v.ownBlock = some k → w.heap.size ≤ k)
  (new : ∀ (j : Nat) (p : Pt) (y : Sl), st[j]? = some p → ys[j]? = some y → RL W (sv y) p.ls ∧ ∀ k, (sv y).ownBlock = some k → w.heap.size ≤ k)
  (sep : ∀ (j1 j2 : Nat) (x y : Sl), j1 ≠ j2 → ys[j1]? = some x → ys[j2]? = some y → ∀ k, (sv x).ownBlock = some k → (sv y).ownBlock ≠ some k)
section
variable {w W W1 W2 : World} {st : St} {ys : List Sl} {v v1 : Value} {i : Nat}
theorem Dcp.move (h : Dcp w W st v ys i) (hi : i ≤ st.length) (hm : ∀ k, (v.ownBlock = some k ∨ ∃ cs, W.heap[k]? = some (.cells cs 34 (0, 0))) → k < W.heap.size → W1.heap[k]? = W.heap[k]?) : Dcp w W1 st v ys i where
  row := h.row.keep (fun k hk => hm k (.inl hk) (h.row.lt k hk))
  len := h.len
  own := h.own
  new := fun j p y hp hy => ⟨(h.new j p y hp hy).1.keep (fun k hk => hm k (.inr ((h.new j p y hp hy).1.typed k hk)) ((h.new j p y hp hy).1.lt k hk)), (h.new j p y hp hy).2⟩
  sep := h.sep
theorem Dcp.below (h : Dcp w W st v ys i) (hi : i ≤ st.length) (hb : Below W.heap.size W W1) : Dcp w W1 st v ys i := h.move hi (fun k _ hk => hb.block k hk)
theorem dcp_step (h : Dcp w W st v ys i) {p : Pt} (hp : st[i]? = some p) {y : Sl} (hl : RL W1 (sv y) p.ls) (hk : ∀ k, (sv y).ownBlock = some k → W.heap.size ≤ k) (hb : Below W.heap.size W W1) (hw : w.heap.size ≤ W.heap.size)
    (hR : RowK kSl 31 W2 v1 (ys ++ [y])) (hg : W1.grownBy W2 v.ownBlock) (hat : v1.ownBlock = v.ownBlock ∨ ∃ b, v1.ownBlock = some b ∧ W1.heap.size ≤ b) : Dcp w W2 st v1 (ys ++ [y]) (i + 1) := by
  have hi := (List.getElem?_eq_some_iff.1 hp).1
  have h1 := h.below (Nat.le_of_lt hi) hb
  have hne : ∀ k, (∃ cs : Array Value, W1.heap[k]? = some (.cells cs 34 (0, 0))) → some k ≠ v.ownBlock := fun k ⟨cs, hk⟩ e => by
    obtain ⟨cs', hc'⟩ := h1.row.typed k e.symm
    exact typed_ne hk hc' (by decide) rfl
  refine ⟨hR, by rw [List.length_append, h.len]; rfl, fun k hk2 => ?_, ?_, ?_⟩
  · rcases hat with e | ⟨b, e, hle⟩
    · exact h.own k (by rw [← e]; exact hk2)
    · rw [e] at hk2
      have := Option.some.inj hk2
      have := hb.size
      omega
  · intro j q z hq hz
    by_cases hj : j < i
    · rw [List.getElem?_append_left (by rw [h.len]; exact hj)] at hz
      obtain ⟨g1, g2⟩ := h1.new j q z hq hz
      exact ⟨g1.keep (fun k hk2 => hg.block k (g1.lt k hk2) (hne k (g1.typed k hk2))), g2⟩
    · have hji : j = i := by
        have := (List.getElem?_eq_some_iff.1 hz).1
        rw [List.length_append, h.len] at this
        simp at this
        omega
      subst hji
      rw [List.getElem?_append_right (by rw [h.len]; exact Nat.le_refl _)] at hz
      obtain rfl := List.mem_singleton.1 (List.mem_of_getElem? hz)
      obtain rfl := Option.some.inj (hp.symm.trans hq)
      exact ⟨hl.keep (fun k hk2 => hg.block k (hl.lt k hk2) (hne k (hl.typed k hk2))), fun k hk2 => Nat.le_trans hw (hk k hk2)⟩
  · intro j1 j2 a b hne12 ha hbb k hka hkb
    have hlt : ∀ (j : Nat) (z : Sl), ys[j]? = some z → ∀ k, (sv z).ownBlock = some k → k < W.heap.size := fun j z hz k hkz => by
      have hjy : j < ys.length := (List.getElem?_eq_some_iff.1 hz).1
      rw [h.len] at hjy
      exact (h.new j (st[j]'(by omega)) z (List.getElem?_eq_getElem _) hz).1.lt k hkz
    have hcase : ∀ (j : Nat) (z : Sl), (ys ++ [y])[j]? = some z → (j < i ∧ ys[j]? = some z) ∨ (j = i ∧ z = y) := fun j z hz => by
      by_cases hj : j < i
      · rw [List.getElem?_append_left (by rw [h.len]; exact hj)] at hz
        exact .inl ⟨hj, hz⟩
      · have hji : j = i := by
          have := (List.getElem?_eq_some_iff.1 hz).1
          rw [List.length_append, h.len] at this
          simp at this
          omega
        subst hji
        rw [List.getElem?_append_right (by rw [h.len]; exact Nat.le_refl _)] at hz
        exact .inr ⟨rfl, List.mem_singleton.1 (List.mem_of_getElem? hz)⟩
    rcases hcase j1 a ha with ⟨c1, ha2⟩ | ⟨rfl, rfl⟩
    · rcases hcase j2 b hbb with ⟨c2, hb2⟩ | ⟨rfl, rfl⟩
      · exact h.sep j1 j2 a b hne12 ha2 hb2 k hka hkb
      · have := hk k hkb
        have := hlt j1 a ha2 k hka
        omega
    · rcases hcase j2 b hbb with ⟨c2, hb2⟩ | ⟨rfl, rfl⟩
      · have := hk k hka
        have := hlt j2 b hb2 k hkb
        omega
      · exact hne12 rfl
theorem dcp_done {ob : Nat} {u : Value} (h : Dcp w W st v ys st.length) (hob : W.heap[ob]? = some (.cells #[u, v] 75 (0, 0))) (hob2 : w.heap.size ≤ ob) (hP : RowK k50 50 W u (st.map pOf)) (hu : ∀ k, u.ownBlock = some k → w.heap.size ≤ k) :
    ∃ S, Dem W S ob u v ys st ∧ ∀ k, S k → w.heap.size ≤ k := by
  have hyl : ∀ x ∈ ys, ∃ (j : Nat) (p : Pt), st[j]? = some p ∧ ys[j]? = some x := fun x hx => by
    obtain ⟨j, hj⟩ := List.mem_iff_getElem?.1 hx
    have h1 := (List.getElem?_eq_some_iff.1 hj).1
    rw [h.len] at h1
    exact ⟨j, st[j], List.getElem?_eq_getElem _, hj⟩
  refine ⟨fun k => k = ob ∨ u.ownBlock = some k ∨ v.ownBlock = some k ∨ ∃ y ∈ ys, (sv y).ownBlock = some k, ⟨hob, hP, h.row, h.len, fun i p x hp hx => (h.new i p x hp hx).1, h.sep, ⟨.inl rfl, fun k hk => .inr (.inl hk), fun k hk => .inr (.inr (.inl hk)), fun x hx k hk => .inr (.inr (.inr ⟨x, hx, hk⟩))⟩, ?_⟩, ?_⟩
  · rintro k (rfl | hk | hk | ⟨y, hy, hk⟩)
    · exact blk_lt hob
    · exact hP.lt k hk
    · exact h.row.lt k hk
    · obtain ⟨j, p, h1, h2⟩ := hyl y hy
      exact (h.new j p y h1 h2).1.lt k hk
  · rintro k (rfl | hk | hk | ⟨y, hy, hk⟩)
    · exact hob2
    · exact hu k hk
    · exact h.own k hk
    · obtain ⟨j, p, h1, h2⟩ := hyl y hy
      exact (h.new j p y h1 h2).2 k hk
end
section
variable {w : World} {S : Nat → Prop} {db : Nat} {v1 v2 : Value} {ls : List Sl} {st : St}
set_option maxHeartbeats 4000000 in
set_option maxRecDepth 100000 in
theorem dcopy_calls (h : Dem w S db v1 v2 ls st) (hI : Inv st) :
    Calls Try.prog 23 #[.pointer (some ⟨db, 0, none⟩)] w fun e w' => (∃ ob u1 u2 ys S', e = .returned (.pointer (some ⟨ob, 0, none⟩)) ∧ Dem w' S' ob u1 u2 ys st ∧ ∀ k, S' k → w.heap.size ≤ k) ∧ Below w.heap.size w w' := by
  have HM := Aside0.mk h
  have hu75 := Try.underlying75
  have h8 := hI.few
  have H8 := Aside0.mk h8
  have HLS := Aside0.mk (Inv.ls8 hI)
  obtain ⟨x0, x1⟩ := MBlk.c2 h.blk
  obtain ⟨AP, cP, eP⟩ := h.rowP.slice
  have hrP := h.rowP
  rw [eP] at x0 hrP
  rw [List.length_map] at eP x0 hrP
  have HRP := Aside0.mk (show k50.C w AP st.length (st.map pOf) by have := (Kd.R_reads' hrP).2.2; rw [List.length_map] at this; exact this)
  obtain ⟨AL, cL, eL⟩ := h.rowL.slice
  rw [h.len] at eL
  rw [eL] at x1
  have eL := Aside0.mk eL
  have HB := Aside0.mk (Below.refl w.heap.size w)
  clear h hI h8 hrP eP
  go_enter Try.func23, Try.ntmps23
  go_upto_region 2 with (first | ((with_reducible refine gate_dst (N := 7) rfl ?_); refine sh_E 7 75 #[.slice none 0 0, .slice none 0 0] ?_; intro ob hob w1 hbox hb; have HOB := Aside0.mk (show w.heap.size ≤ ob by omega); have BK := Aside0.mk hbox; replace HB := sh_S HB hb; replace x0 := pw_cell_below hb x0; replace x1 := pw_cell_below hb x1; clear hbox hb hob) | fail)
  have BKD := Aside0.mk (show w1.drew.heap[ob]? = some (.cells #[.slice none 0 0, .slice none 0 0] 75 (0, 0)) from BK.out)
  obtain ⟨o0, o1⟩ := MBlk.c2 BK.out
  refine start_ (n := 13) (S := fun W => W.cell? ⟨db, 0, none⟩ = some (.slice AP st.length cP) ∧ W.cell? ⟨ob, 0, none⟩ = some (.slice none 0 0)) (ds := [12]) #[false, false, false, false, false, false, false, false, false, false, false, false, false] (by kernel_rfl) rfl rfl ⟨x0, o0⟩ (fun hHeld => ?_)
  refine pure_ (i := 0) (N := some 8) (v := ?_) (a' := ?_) #[true, false, false, false, false, false, false, false, false, false, false, false, false] rfl rfl (by kernel_rfl) (fun _ _ _ h => h) (Or.inl ⟨by rfl, ?_⟩) ?_ ?_
  rotate_left
  ·
   intro w'
   go_simp
   with_reducible rfl
  rotate_left
  ·
   simp only [Act.put, List.setIfInBounds_toArray, List.set_cons_zero, List.set_cons_succ, i64_w, i32_w]
   rfl
  refine pure_ (i := 1) (N := some 9) (v := ?_) (a' := ?_) #[true, true, false, false, false, false, false, false, false, false, false, false, false] rfl rfl (by kernel_rfl) (fun _ _ _ h => h) (Or.inl ⟨by rfl, ?_⟩) ?_ ?_
  rotate_left
  ·
   intro w'
   go_simp
   with_reducible rfl
  rotate_left
  ·
   simp only [Act.put, List.setIfInBounds_toArray, List.set_cons_zero, List.set_cons_succ, i64_w, i32_w]
   rfl
  refine pure_ (i := 2) (N := some 10) (v := ?_) (a' := ?_) #[true, true, true, false, false, false, false, false, false, false, false, false, false] rfl rfl (by kernel_rfl) (fun _ _ _ h => h) (Or.inl ⟨by rfl, ?_⟩) ?_ ?_
  rotate_left
  ·
   intro w'
   go_simp
   with_reducible rfl
  rotate_left
  ·
   simp only [Act.put, List.setIfInBounds_toArray, List.set_cons_zero, List.set_cons_succ, i64_w, i32_w]
   rfl
  refine pure_ (i := 3) (N := some 11) (v := ?_) (a' := ?_) #[true, true, true, true, false, false, false, false, false, false, false, false, false] rfl rfl (by kernel_rfl) (fun _ _ _ h => h) (Or.inl ⟨by rfl, ?_⟩) ?_ ?_
  rotate_left
  ·
   intro w'
   go_simp
   with_reducible rfl
  rotate_left
  ·
   simp only [Act.put, List.setIfInBounds_toArray, List.set_cons_zero, List.set_cons_succ, i64_w, i32_w]
   rfl
  refine take_ (i := 4) (N := some 12) (v := ?_) (a' := ?_) #[true, true, true, true, true, false, false, false, false, false, false, false, false] rfl rfl (by kernel_rfl) (fun _ _ _ h => h) (Or.inl ⟨by rfl, ?_⟩) hHeld ?_ ?_
  rotate_left
  ·
   rintro w' ⟨s0, s1⟩
   go_simp
   with_reducible rfl
  rotate_left
  ·
   simp only [Act.put, List.setIfInBounds_toArray, List.set_cons_zero, List.set_cons_succ, i64_w, i32_w]
   rfl
  refine pure_ (i := 5) (N := some 13) (v := ?_) (a' := ?_) #[true, true, true, true, true, true, false, false, false, false, false, false, false] rfl rfl (by kernel_rfl) (fun _ _ _ h => h) (Or.inl ⟨by rfl, ?_⟩) ?_ ?_
  rotate_left
  ·
   intro w'
   go_simp
   with_reducible rfl
  rotate_left
  ·
   simp only [Act.put, List.setIfInBounds_toArray, List.set_cons_zero, List.set_cons_succ, i64_w, i32_w]
   rfl
  refine pure_ (i := 6) (N := some 14) (v := ?_) (a' := ?_) #[true, true, true, true, true, true, true, false, false, false, false, false, false] rfl rfl (by kernel_rfl) (fun _ _ _ h => h) (Or.inl ⟨by rfl, ?_⟩) ?_ ?_
  rotate_left
  ·
   intro w'
   go_simp
   with_reducible rfl
  rotate_left
  ·
   simp only [Act.put, List.setIfInBounds_toArray, List.set_cons_zero, List.set_cons_succ, i64_w, i32_w]
   rfl
  refine pure_ (i := 7) (N := some 15) (v := ?_) (a' := ?_) #[true, true, true, true, true, true, true, true, false, false, false, false, false] rfl rfl (by kernel_rfl) (fun _ _ _ h => h) (Or.inl ⟨by rfl, ?_⟩) ?_ ?_
  rotate_left
  ·
   intro w'
   go_simp
   with_reducible rfl
  rotate_left
  ·
   simp only [Act.put, List.setIfInBounds_toArray, List.set_cons_zero, List.set_cons_succ, i64_w, i32_w]
   rfl
  refine take_ (i := 8) (N := some 16) (v := ?_) (a' := ?_) #[true, true, true, true, true, true, true, true, true, false, false, false, false] rfl rfl (by kernel_rfl) (fun _ _ _ h => h) (Or.inl ⟨by rfl, ?_⟩) hHeld ?_ ?_
  rotate_left
  ·
   rintro w' ⟨s0, s1⟩
   go_simp
   with_reducible rfl
  rotate_left
  ·
   simp only [Act.put, List.setIfInBounds_toArray, List.set_cons_zero, List.set_cons_succ, i64_w, i32_w]
   rfl
  refine one_ (i := 9) (N := some 17) #[true, true, true, true, true, true, true, true, true, true, false, false, false] rfl rfl (by kernel_rfl) (by decide) (fun K hK => ?_)
  refine Kd.R_append_rows_step k50 (Rr := Kd.K k50 w1.drew) (w0 := w1.drew) w1.drew.heap.size (by rfl) (.tmp 12) (.tmp 16) 72 50 (.agg #[.string ⟨#[]⟩, .int .u64 0, .int .i64 0, .bool false]) 40 rfl Try.underlying72 (by kernel_rfl) rfl (by decide) (by decide) (.slice none 0 0) [] (st.map pOf) _ _ _ (fun _ => True) (fun _ => False) rfl rfl (Kd.R_nil k50 _ _ _ (fun _ => True)) (Kd.C_below HRP.out (below_drew1 HB.out)) (fun y cs hq => by obtain rfl := k50_open hq; exact k50_mkM _ _ _ _) (fun _ h => h.elim) (fun _ _ => trivial) (Below.refl _ _) (Nat.le_refl _) (by simp only [List.length_nil]; have := H8.out; omega) ?_
  intro u1 w2 ho hb hg hat
  rw [List.nil_append] at ho
  have hrow := RowK.of plP ho
  obtain ⟨A1, c1, eu⟩ := hrow.slice
  rw [List.length_map] at eu
  subst eu
  have HU := Aside0.mk hrow
  have HUN := Aside0.mk (own_new hat)
  have BK2 := Aside0.mk (blk_below (BKD.out) hb)
  have HB2 := Aside0.mk (below_step (below_drew1 HB.out) hb)
  refine hK.out _ _ ⟨pw_cell_below hb hHeld.1, pw_cell_below hb hHeld.2⟩ (fun hHeld => ?_)
  clear ho hb hg hat hrow hK K
  refine norm_ (a' := ?_) ?_ ?_
  rotate_left
  ·
    show Act.put _ (some 17) _ = _
    simp only [Act.put, List.setIfInBounds_toArray, List.set_cons_zero, List.set_cons_succ, i64_w, i32_w]
    rfl
  refine pure_ (i := 10) (N := some 18) (v := ?_) (a' := ?_) #[true, true, true, true, true, true, true, true, true, true, true, false, false] rfl rfl (by kernel_rfl) (fun _ _ _ h => h) (Or.inl ⟨by rfl, ?_⟩) ?_ ?_
  rotate_left
  ·
   intro w'
   go_simp
   with_reducible rfl
  rotate_left
  ·
   simp only [Act.put, List.setIfInBounds_toArray, List.set_cons_zero, List.set_cons_succ, i64_w, i32_w]
   rfl
  refine pure_ (i := 11) (N := some 19) (v := ?_) (a' := ?_) #[true, true, true, true, true, true, true, true, true, true, true, true, false] rfl rfl (by kernel_rfl) (fun _ _ _ h => h) (Or.inl ⟨by rfl, ?_⟩) ?_ ?_
  rotate_left
  ·
   intro w'
   go_simp
   with_reducible rfl
  rotate_left
  ·
   simp only [Act.put, List.setIfInBounds_toArray, List.set_cons_zero, List.set_cons_succ, i64_w, i32_w]
   rfl
  refine last_ (i := 12) (N := none) #[true, true, true, true, true, true, true, true, true, true, true, true, true] rfl rfl (by kernel_rfl) (by decide) (fun K hK => ?_)
  obtain ⟨y0, y1⟩ := MBlk.c2 BK2.out
  obtain ⟨f0, f1⟩ := MBlk.f2 BK2.out
  refine store_step (by rfl) rfl (w1 := w2.setCell ⟨ob, 0, none⟩ (.slice A1 st.length c1)) (by first | (go_simp; done) | (go_simp; rfl)) ?_
  refine hK.out _ _ ?_
  clear hK K y0 y1 f0 f1
  refine done_ (by kernel_rfl) ?_
  obtain ⟨w3, hw3⟩ : ∃ w3, w2.setCell ⟨ob, 0, none⟩ (.slice A1 st.length c1) = w3 := ⟨_, rfl⟩
  have far3 : ∀ k, k ≠ ob → w3.heap[k]? = w2.heap[k]? := fun k hk => by rw [← hw3]; exact Below.heap_setCell w2 _ _ k hk
  have BK3 := Aside0.mk (show w3.heap[ob]? = some (.cells #[.slice A1 st.length c1, .slice none 0 0] 75 (0, 0)) by rw [← hw3]; exact blk_put BK2.out 0 _ rfl)
  have HU3 := Aside0.mk (show RowK k50 50 w3 (.slice A1 st.length c1) (st.map pOf) from HU.out.keep (fun k hk => far3 k (by obtain ⟨cs, hc⟩ := HU.out.typed k hk; exact typed_ne hc BK2.out (by decide))))
  have HB3 := Aside0.mk (show Below w.heap.size w w3 by rw [← hw3]; exact below_set HB2.out HOB.out)
  have HUF := Aside0.mk (show ∀ k, (Value.slice A1 st.length c1).ownBlock = some k → w.heap.size ≤ k from fun k hk => Nat.le_trans HB.out.size (HUN.out k hk))
  have HDC := Aside0.mk (show Dcp w w3 st (.slice none 0 0) [] 0 from ⟨RowK.of plS (Kd.R_nil kSl _ _ 0 (fun _ => True)), rfl, fun k hk => (by simp [Value.ownBlock] at hk), fun j p y _ hy => (by simp at hy), fun j _ x _ _ hx => (by simp at hx)⟩)
  rw [hw3]
  clear hw3 far3 BK BK2 HB HB2 HU HUN HRP x0 x1 hHeld
  go_wp2_with fail
  go_loopg [4] st.length (fun kq v4 w' => ∃ (i : Nat) (vL : Value) (ys : List Sl), v4 = .int .i64 (i : Int) ∧ Aside0 (i + kq = st.length) ∧ Aside0 (Dcp w w' st vL ys i) ∧ Aside0 (w'.heap[ob]? = some (.cells #[.slice A1 st.length c1, vL] 75 (0, 0))) ∧ Aside0 (RowK k50 50 w' (.slice A1 st.length c1) (st.map pOf)) ∧ Aside0 (Below w.heap.size w w'))
  case atStart => exact ⟨0, _, [], rfl, ⟨by omega⟩, HDC, BK3, HU3, HB3⟩
  case round =>
    clear HDC BK3 HU3 HB3
    obtain ⟨i, vL, ys, rfl, HK, HDC, BK, HU, HB⟩ := hrel
    obtain ⟨y, hy⟩ : ∃ y : Int, (i : Int) = y := ⟨_, rfl⟩
    obtain ⟨x0, x1⟩ := MBlk.c2 HM.out.blk
    rw [eL.out] at x1
    replace x1 := pw_cell_below HB.out x1
    clear x0
    have h8 := H8.out
    by_cases hi : i < st.length
    · obtain ⟨p, hp⟩ : ∃ p, st[i]? = some p := ⟨_, List.getElem?_eq_getElem hi⟩
      obtain ⟨x, lb, c', hx, hv, hSl, l0, _⟩ := datL HM.out hi
      have ev := eL.out.symm.trans hv
      injection ev with e1 en e2
      subst e1
      clear en e2 hv
      have hrl := HM.out.like i p x hp hx
      obtain ⟨A, cc, ex, hC⟩ := RL.reads hrl
      rw [ex] at l0
      replace l0 := pw_cell_below HB.out l0
      have HLC := Aside0.mk (Kd.C_below hC HB.out)
      have HP8 := Aside0.mk (HLS.out p (List.mem_of_getElem? hp))
      obtain ⟨AV, cV, rfl⟩ : ∃ AV cV, vL = .slice AV i cV := by
        obtain ⟨AV, cV, e⟩ := HDC.out.row.slice
        rw [HDC.out.len] at e
        exact ⟨AV, cV, e⟩
      have HOW := Aside0.mk (show (Value.slice AV i cV).ownBlock ≠ some ob ∧ ∀ k, (Value.slice A1 st.length c1).ownBlock = some k → (Value.slice AV i cV).ownBlock ≠ some k from ⟨fun e => by
        obtain ⟨cs, hc⟩ := HDC.out.row.typed ob e
        exact typed_ne hc BK.out (by decide) rfl, fun k hk e => by
        obtain ⟨cs, hc⟩ := HU.out.typed k hk
        obtain ⟨cs', hc'⟩ := HDC.out.row.typed k e
        exact typed_ne hc hc' (by decide) rfl⟩)
      have HP := Aside0.mk hp
      obtain ⟨o0, o1⟩ := MBlk.c2 BK.out
      clear o0
      have hyi : y.toNat = i := by omega
      have z1 : (0 ≤ y) = True := eq_true (by omega)
      have q1 : (y < (st.length : Int)) = True := eq_true (by omega)
      have b1 : decide (y < (st.length : Int)) = true := decide_eq_true (by omega)
      have hyw : wrap64 (y + 1) = ((i + 1 : Nat) : Int) := by unfold wrap64; omega
      have HYW := Aside0.mk hyw
      have HY := Aside0.mk hy
      obtain ⟨gk, rfl⟩ : ∃ q, gk = q + 1 := ⟨gk - 1, by have := HK.out; omega⟩
      rw [hy]
      clear hy hyw hp hx hi h8 hrl hC ex hSl
      go_wp2_with fail
      refine start_ (n := 19) (S := fun W => W.cell? ⟨ob, 1, none⟩ = some (.slice AV i cV) ∧ W.cell? ⟨db, 1, none⟩ = some (.slice (some ⟨lb, 0, none⟩) st.length cL) ∧ W.cell? ⟨lb, i, none⟩ = some (.slice A p.ls.length cc)) (ds := [15, 18]) #[false, false, false, false, false, false, false, false, false, false, false, false, false, false, false, false, false, false, false] (by kernel_rfl) rfl rfl ⟨o1, x1, l0⟩ (fun hHeld => ?_)
      refine pure_ (i := 0) (N := some 29) (v := ?_) (a' := ?_) #[true, false, false, false, false, false, false, false, false, false, false, false, false, false, false, false, false, false, false] rfl rfl (by kernel_rfl) (fun _ _ _ h => h) (Or.inl ⟨by rfl, ?_⟩) ?_ ?_
      rotate_left
      ·
       intro w'
       go_simp
       with_reducible rfl
      rotate_left
      ·
       simp only [Act.put, List.setIfInBounds_toArray, List.set_cons_zero, List.set_cons_succ, i64_w, i32_w]
       rfl
      refine pure_ (i := 1) (N := some 30) (v := ?_) (a' := ?_) #[true, true, false, false, false, false, false, false, false, false, false, false, false, false, false, false, false, false, false] rfl rfl (by kernel_rfl) (fun _ _ _ h => h) (Or.inl ⟨by rfl, ?_⟩) ?_ ?_
      rotate_left
      ·
       intro w'
       go_simp
       with_reducible rfl
      rotate_left
      ·
       simp only [Act.put, List.setIfInBounds_toArray, List.set_cons_zero, List.set_cons_succ, i64_w, i32_w]
       rfl
      refine pure_ (i := 2) (N := some 31) (v := ?_) (a' := ?_) #[true, true, true, false, false, false, false, false, false, false, false, false, false, false, false, false, false, false, false] rfl rfl (by kernel_rfl) (fun _ _ _ h => h) (Or.inl ⟨by rfl, ?_⟩) ?_ ?_
      rotate_left
      ·
       intro w'
       go_simp
       with_reducible rfl
      rotate_left
      ·
       simp only [Act.put, List.setIfInBounds_toArray, List.set_cons_zero, List.set_cons_succ, i64_w, i32_w]
       rfl
      refine pure_ (i := 3) (N := some 32) (v := ?_) (a' := ?_) #[true, true, true, true, false, false, false, false, false, false, false, false, false, false, false, false, false, false, false] rfl rfl (by kernel_rfl) (fun _ _ _ h => h) (Or.inl ⟨by rfl, ?_⟩) ?_ ?_
      rotate_left
      ·
       intro w'
       go_simp
       with_reducible rfl
      rotate_left
      ·
       simp only [Act.put, List.setIfInBounds_toArray, List.set_cons_zero, List.set_cons_succ, i64_w, i32_w]
       rfl
      refine take_ (i := 4) (N := some 33) (v := ?_) (a' := ?_) #[true, true, true, true, true, false, false, false, false, false, false, false, false, false, false, false, false, false, false] rfl rfl (by kernel_rfl) (fun _ _ _ h => h) (Or.inl ⟨by rfl, ?_⟩) hHeld ?_ ?_
      rotate_left
      ·
       rintro w' ⟨s0, s1, s2⟩
       go_simp
       with_reducible rfl
      rotate_left
      ·
       simp only [Act.put, List.setIfInBounds_toArray, List.set_cons_zero, List.set_cons_succ, i64_w, i32_w]
       rfl
      refine pure_ (i := 5) (N := some 34) (v := ?_) (a' := ?_) #[true, true, true, true, true, true, false, false, false, false, false, false, false, false, false, false, false, false, false] rfl rfl (by kernel_rfl) (fun _ _ _ h => h) (Or.inl ⟨by rfl, ?_⟩) ?_ ?_
      rotate_left
      ·
       intro w'
       go_simp
       with_reducible rfl
      rotate_left
      ·
       simp only [Act.put, List.setIfInBounds_toArray, List.set_cons_zero, List.set_cons_succ, i64_w, i32_w]
       rfl
      refine pure_ (i := 6) (N := some 35) (v := ?_) (a' := ?_) #[true, true, true, true, true, true, true, false, false, false, false, false, false, false, false, false, false, false, false] rfl rfl (by kernel_rfl) (fun _ _ _ h => h) (Or.inl ⟨by rfl, ?_⟩) ?_ ?_
      rotate_left
      ·
       intro w'
       go_simp
       with_reducible rfl
      rotate_left
      ·
       simp only [Act.put, List.setIfInBounds_toArray, List.set_cons_zero, List.set_cons_succ, i64_w, i32_w]
       rfl
      refine pure_ (i := 7) (N := some 36) (v := ?_) (a' := ?_) #[true, true, true, true, true, true, true, true, false, false, false, false, false, false, false, false, false, false, false] rfl rfl (by kernel_rfl) (fun _ _ _ h => h) (Or.inl ⟨by rfl, ?_⟩) ?_ ?_
      rotate_left
      ·
       intro w'
       go_simp
       with_reducible rfl
      rotate_left
      ·
       simp only [Act.put, List.setIfInBounds_toArray, List.set_cons_zero, List.set_cons_succ, i64_w, i32_w]
       rfl
      refine pure_ (i := 8) (N := some 37) (v := ?_) (a' := ?_) #[true, true, true, true, true, true, true, true, true, false, false, false, false, false, false, false, false, false, false] rfl rfl (by kernel_rfl) (fun _ _ _ h => h) (Or.inl ⟨by rfl, ?_⟩) ?_ ?_
      rotate_left
      ·
       intro w'
       go_simp
       with_reducible rfl
      rotate_left
      ·
       simp only [Act.put, List.setIfInBounds_toArray, List.set_cons_zero, List.set_cons_succ, i64_w, i32_w]
       rfl
      refine take_ (i := 9) (N := some 38) (v := ?_) (a' := ?_) #[true, true, true, true, true, true, true, true, true, true, false, false, false, false, false, false, false, false, false] rfl rfl (by kernel_rfl) (fun _ _ _ h => h) (Or.inl ⟨by rfl, ?_⟩) hHeld ?_ ?_
      rotate_left
      ·
       rintro w' ⟨s0, s1, s2⟩
       go_simp
       with_reducible rfl
      rotate_left
      ·
       simp only [Act.put, List.setIfInBounds_toArray, List.set_cons_zero, List.set_cons_succ, i64_w, i32_w]
       rfl
      refine pure_ (i := 10) (N := some 39) (v := ?_) (a' := ?_) #[true, true, true, true, true, true, true, true, true, true, true, false, false, false, false, false, false, false, false] rfl rfl (by kernel_rfl) (fun _ _ _ h => h) (Or.inl ⟨by rfl, ?_⟩) ?_ ?_
      rotate_left
      ·
       intro w'
       go_simp
       with_reducible rfl
      rotate_left
      ·
       simp only [Act.put, List.setIfInBounds_toArray, List.set_cons_zero, List.set_cons_succ, i64_w, i32_w]
       rfl
      refine pure_ (i := 11) (N := some 40) (v := ?_) (a' := ?_) #[true, true, true, true, true, true, true, true, true, true, true, true, false, false, false, false, false, false, false] rfl rfl (by kernel_rfl) (fun _ _ _ h => h) (Or.inl ⟨by rfl, ?_⟩) ?_ ?_
      rotate_left
      ·
       intro w'
       go_simp
       with_reducible rfl
      rotate_left
      ·
       simp only [Act.put, List.setIfInBounds_toArray, List.set_cons_zero, List.set_cons_succ, i64_w, i32_w]
       rfl
      refine take_ (i := 12) (N := some 41) (v := ?_) (a' := ?_) #[true, true, true, true, true, true, true, true, true, true, true, true, true, false, false, false, false, false, false] rfl rfl (by kernel_rfl) (fun _ _ _ h => h) (Or.inl ⟨by rfl, ?_⟩) hHeld ?_ ?_
      rotate_left
      ·
       rintro w' ⟨s0, s1, s2⟩
       go_simp
       with_reducible rfl
      rotate_left
      ·
       simp only [Act.put, List.setIfInBounds_toArray, List.set_cons_zero, List.set_cons_succ, i64_w, i32_w]
       rfl
      refine one_ (i := 13) (N := some 42) #[true, true, true, true, true, true, true, true, true, true, true, true, true, true, false, false, false, false, false] rfl rfl (by kernel_rfl) (by decide) (fun K hK => ?_)
      refine Kd.R_append_rows_step k34 (Rr := Kd.K k34 wr.drew) (w0 := wr.drew) wr.drew.heap.size (by rfl) (.tmp 34) (.tmp 41) 31 34 (.agg #[.bool false, .int .u64 0, .int .u64 0, .int .i64 0]) 32 rfl Try.underlying31 (by kernel_rfl) rfl (by decide) (by decide) (.slice none 0 0) [] p.ls _ _ _ (fun _ => True) (fun _ => False) rfl rfl (Kd.R_nil k34 _ _ _ (fun _ => True)) (Kd.C_below HLC.out (below_drew1 (Below.refl _ _))) (fun y cs hq => by obtain rfl := k34_open hq; exact k34_mkM _ _ _ _) (fun _ h => h.elim) (fun _ _ => trivial) (Below.refl _ _) (Nat.le_refl _) (by simp only [List.length_nil]; have := HP8.out; omega) ?_
      intro u5 w5 ho hb hg hat
      rw [List.nil_append] at ho
      have hrow := RL.of ho
      obtain ⟨A5, c5, eu⟩ := hrow.slice
      subst eu
      have HR5 := Aside0.mk (show RL w5 (sv ⟨A5, p.ls.length, c5⟩) p.ls from hrow)
      have HO5 := Aside0.mk (show ∀ k, (sv ⟨A5, p.ls.length, c5⟩).ownBlock = some k → wr.heap.size ≤ k from own_new hat)
      have HB5 := Aside0.mk (show Below wr.heap.size wr w5 from ⟨hb.os, hb.tape, hb.output, hb.size, hb.block⟩)
      refine hK.out _ _ ⟨pw_cell_below hb hHeld.1, pw_cell_below hb hHeld.2.1, pw_cell_below hb hHeld.2.2⟩ (fun hHeld => ?_)
      clear ho hb hg hat hrow hK K
      refine norm_ (a' := ?_) ?_ ?_
      rotate_left
      ·
        show Act.put _ (some 42) _ = _
        simp only [Act.put, List.setIfInBounds_toArray, List.set_cons_zero, List.set_cons_succ, i64_w, i32_w]
        rfl
      refine one_ (i := 14) (N := some 43) #[true, true, true, true, true, true, true, true, true, true, true, true, true, true, true, false, false, false, false] rfl rfl (by kernel_rfl) (by decide) (fun K hK => ?_)
      refine event_step (v := .slice (some ⟨w5.heap.size, 0, none⟩) 1 1) (w1 := w5.alloc (.cells [sv ⟨A5, p.ls.length, c5⟩].toArray 31)) (by rfl) (by first | (go_simp; done) | (go_simp; rfl)) ?_
      refine hK.out _ _ ⟨pw_cell_below (below_alloc (Below.refl _ _) _) hHeld.1, pw_cell_below (below_alloc (Below.refl _ _) _) hHeld.2.1, pw_cell_below (below_alloc (Below.refl _ _) _) hHeld.2.2⟩ (fun hHeld => ?_)
      clear hK K
      refine norm_ (a' := ?_) ?_ ?_
      rotate_left
      ·
        show Act.put _ (some 43) _ = _
        simp only [Act.put, List.setIfInBounds_toArray, List.set_cons_zero, List.set_cons_succ, i64_w, i32_w]
        rfl
      refine last_ (i := 15) (N := some 44) #[true, true, true, true, true, true, true, true, true, true, true, true, true, true, true, true, false, false, false] rfl rfl (by kernel_rfl) (by decide) (fun K hK => ?_)
      refine Kd.R_append_step kSl (w0 := w5) (W := w5) 0 (by rfl) (.tmp 33) (.tmp 43) 73 31 (.slice none 0 0) 24 rfl Try.underlying73 (by kernel_rfl) rfl (by decide) (by decide) (.slice AV i cV) ys ⟨A5, p.ls.length, c5⟩ [sv ⟨A5, p.ls.length, c5⟩] (fun _ => True) (fun _ => False) rfl rfl rfl (fun _ h => h.elim) (fun _ _ => trivial) (RowK.all plS (HDC.out.below (by have := HK.out; omega) HB5.out).row) (Below.refl 0 w5) (Nat.zero_le _) (by rw [HDC.out.len]; have := HK.out; have := H8.out; omega) ?_
      intro u6 w6 ho hb hg hat
      have hrow := RowK.of plS ho
      have hst := dcp_step HDC.out HP.out HR5.out HO5.out HB5.out HB.out.size hrow hg hat
      obtain ⟨A6, c6, eu⟩ := hrow.slice
      rw [List.length_append, HDC.out.len] at eu
      subst eu
      have HD6 := Aside0.mk hst
      have HG7 := Aside0.mk (show Below w.heap.size w w6 from ⟨hg.os.trans (HB5.out.os.trans HB.out.os), hg.tape.trans (HB5.out.tape.trans HB.out.tape), hg.output.trans (HB5.out.output.trans HB.out.output), Nat.le_trans (Nat.le_trans HB.out.size HB5.out.size) hg.size, fun k hk => (hg.block k (by have := HB.out.size; have := HB5.out.size; omega) (fun e => by have := HDC.out.own k e.symm; omega)).trans ((HB5.out.block k (by have := HB.out.size; omega)).trans (HB.out.block k hk))⟩)
      have BK6 := Aside0.mk ((hg.block ob (by have := HB5.out.size; have := blk_lt BK.out; omega) (fun e => HOW.out.1 e.symm)).trans (blk_below BK.out HB5.out))
      have HU6 := Aside0.mk (HU.out.keep (fun k hk => (hg.block k (by have := HB5.out.size; have := HU.out.lt k hk; omega) (fun e => HOW.out.2 k hk e.symm)).trans (HB5.out.block k (HU.out.lt k hk))))
      refine hK.out _ _ ?_
      clear ho hb hg hat hrow hst hK K
      refine norm_ (a' := ?_) ?_ ?_
      rotate_left
      ·
        show Act.put _ (some 44) _ = _
        simp only [Act.put, List.setIfInBounds_toArray, List.set_cons_zero, List.set_cons_succ, i64_w, i32_w]
        rfl
      refine pure_ (i := 16) (N := some 45) (v := ?_) (a' := ?_) #[true, true, true, true, true, true, true, true, true, true, true, true, true, true, true, true, true, false, false] rfl rfl (by kernel_rfl) (fun _ _ _ h => h) (Or.inl ⟨by rfl, ?_⟩) ?_ ?_
      rotate_left
      ·
       intro w'
       go_simp
       with_reducible rfl
      rotate_left
      ·
       simp only [Act.put, List.setIfInBounds_toArray, List.set_cons_zero, List.set_cons_succ, i64_w, i32_w]
       rfl
      refine pure_ (i := 17) (N := some 46) (v := ?_) (a' := ?_) #[true, true, true, true, true, true, true, true, true, true, true, true, true, true, true, true, true, true, false] rfl rfl (by kernel_rfl) (fun _ _ _ h => h) (Or.inl ⟨by rfl, ?_⟩) ?_ ?_
      rotate_left
      ·
       intro w'
       go_simp
       with_reducible rfl
      rotate_left
      ·
       simp only [Act.put, List.setIfInBounds_toArray, List.set_cons_zero, List.set_cons_succ, i64_w, i32_w]
       rfl
      refine last_ (i := 18) (N := none) #[true, true, true, true, true, true, true, true, true, true, true, true, true, true, true, true, true, true, true] rfl rfl (by kernel_rfl) (by decide) (fun K hK => ?_)
      obtain ⟨y0, y1⟩ := MBlk.c2 BK6.out
      obtain ⟨f0, f1⟩ := MBlk.f2 BK6.out
      refine store_step (by rfl) rfl (w1 := w6.setCell ⟨ob, 1, none⟩ (.slice A6 (i + 1) c6)) (by first | (go_simp; done) | (go_simp; rfl)) ?_
      refine hK.out _ _ ?_
      clear hK K y0 y1 f0 f1
      refine done_ (by kernel_rfl) ?_
      go_wp2
      go_roundg gk
      case measure => omega
      case rel => exact ⟨i + 1, .slice A6 (i + 1) c6, ys ++ [⟨A5, p.ls.length, c5⟩], by first | rw [HYW.out] | exact congrArg _ (by have := HY.out; omega), ⟨by have := HK.out; omega⟩,
        ⟨HD6.out.move (by have := HK.out; omega) (fun k hk hlt => Below.heap_setCell w6 _ _ k (by
          rcases hk with q | ⟨cs, hc⟩
          · obtain ⟨cs, hc⟩ := HD6.out.row.typed k q
            exact typed_ne hc BK6.out (by decide)
          · exact typed_ne hc BK6.out (by decide)))⟩, ⟨blk_put BK6.out 1 _ rfl⟩,
        ⟨HU6.out.keep (fun k hk => Below.heap_setCell w6 _ _ k (by obtain ⟨cs, hc⟩ := HU6.out.typed k hk; exact typed_ne hc BK6.out (by decide)))⟩,
        ⟨below_set (HG7.out) HOB.out⟩⟩
    · have hin : i = st.length := by have := HK.out; omega
      subst hin
      have b1 : decide (y < (st.length : Int)) = false := decide_eq_false (by omega)
      obtain ⟨S2, hM2, hS2⟩ := dcp_done HDC.out BK.out HOB.out HU.out HUF.out
      have HM2 := Aside0.mk hM2
      have HS2 := Aside0.mk hS2
      rw [hy]
      clear hy hi h8 hM2 hS2
      go_wp2
      go_ret
      exact ⟨⟨ob, _, _, ys, S2, rfl, HM2.out, HS2.out⟩, HB.out⟩
end
end Go.Proofs.Ytefbcigccfkkgaa.WIf
