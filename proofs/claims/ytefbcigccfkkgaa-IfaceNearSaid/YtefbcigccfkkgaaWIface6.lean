/-
  The calls of a set of ports in memory, sixth part: a port's locals, copied; one of them taken away. Conditions: those of each theorem.
-/
import Derived.Test.YtefbcigccfkkgaaWIface5
import Derived.Deep.RegionLaw
import Derived.Deep.MidRow
import Derived.Lib.SliceRun
set_option linter.unusedVariables false
set_option linter.unusedSimpArgs false
namespace Go.Proofs.Ytefbcigccfkkgaa.WIf
open Go.RowKit Go.Maps Go.WideMaps Go.Proofs.Ytefbcigccfkkgaa.PBase Go.Proofs.YtefbcigccfkkgaaW.PrintWords Go.Proofs.YtefbcigccfkkgaaW.PrintLast Go.Proofs.YtefbcigccfkkgaaW.PrintMore Go.Proofs.Ytefbcigccfkkgaa.If
attribute [local go_sem] max2_int min2_int max_two min_two
set_option maxHeartbeats 1000000 in
set_option maxRecDepth 100000 in
theorem clone_some (w : World) (ad : Addr) (c : Nat) (ls : List Lo) (hC : k34.C w (some ad) ls.length ls) (h8 : ls.length ≤ 1000000) :
    Calls Try.prog 29 #[.slice (some ad) ls.length c] w fun e w' => ∃ v', e = .returned v' ∧ RL w' v' ls ∧ (∀ k, v'.ownBlock = some k → w.heap.size ≤ k) ∧ Below w.heap.size w w' := by
  have HC := Aside0.mk hC
  have HL := Aside0.mk h8
  clear hC h8
  have q31 : ∀ (w : World) (a : Option Addr) (n c n' c' : Nat), (binOp .eql 31 (.slice a n c) (.slice none n' c')).run Try.prog w = .ok (.bool a.isNone) w := fun w a n c n' c' => Lib.run_eql_slice_nil w _ _ a n c n' c' Try.underlying31
  go_enter Try.func29, Try.ntmps29
  go_wp2_with (first | ((with_reducible refine gate_builtin (b := .append) (xs := #[.tmp 5, .tmp 6]) rfl ?_); at_builtin; refine Kd.R_append_rows k34 (Rr := Kd.K k34 (w.alloc (.cells #[] 34))) (w0 := w) w.heap.size rfl (.tmp 5) (.tmp 6) 31 34 (.agg #[.bool false, .int .u64 0, .int .u64 0, .int .i64 0]) 32 rfl Try.underlying31 (by kernel_rfl) rfl (by decide) (by decide) (.slice (some ⟨w.heap.size, 0, none⟩) 0 0) [] ls _ _ _ (fun _ => True) (fun _ => False) rfl rfl ?aO ?aR ?aK (fun _ h => h.elim) (fun _ _ => trivial) ?aB ?aS ?aL ?_; (case aO => exact ⟨fun _ _ => trivial, [], World.ownsRow_made w #[] 0 (Nat.le_refl _) (Nat.zero_le _) rfl, Reps.none _ _⟩); (case aR => exact Kd.C_below HC.out (below_alloc (Below.refl _ _) _)); (case aK => exact (fun y cs hq => by obtain rfl := k34_open hq; exact k34_mkM _ _ _ _)); (case aB => exact below_alloc (Below.refl _ _) _); (case aS => simp); (case aL => simp only [List.length_nil]; have := HL.out; omega); intro v1 w1 ho hb hg hat; have HO := Aside0.mk ho; have HAT := Aside0.mk hat; have HB := Aside0.mk hb; clear ho hb hg hat) | fail)
  go_ret
  refine ⟨v1, rfl, RL.of (by simpa using HO.out), fun k hk => ?_, HB.out⟩
  rcases HAT.out with e | ⟨b, e, hle⟩
  · rw [e] at hk
    have : w.heap.size = k := Option.some.inj hk
    omega
  · rw [e] at hk
    have := Option.some.inj hk
    have h2 : (w.alloc (.cells #[] 34)).heap.size = w.heap.size + 1 := Array.size_push ..
    omega
set_option maxHeartbeats 1000000 in
set_option maxRecDepth 100000 in
theorem clone_none (w : World) (n c : Nat) :
    Calls Try.prog 29 #[.slice none n c] w fun e w' => e = .returned (.slice none 0 0) ∧ w = w' := by
  have q31 : ∀ (w : World) (a : Option Addr) (n c n' c' : Nat), (binOp .eql 31 (.slice a n c) (.slice none n' c')).run Try.prog w = .ok (.bool a.isNone) w := fun w a n c n' c' => Lib.run_eql_slice_nil w _ _ a n c n' c' Try.underlying31
  go_enter Try.func29, Try.ntmps29
  go_wp2
  go_ret
  exact ⟨rfl, rfl⟩
theorem clone_calls (w : World) (v : Value) (ls : List Lo) (hrow : RL w v ls) (h8 : ls.length ≤ 1000000) :
    Calls Try.prog 29 #[v] w fun e w' => ∃ v', e = .returned v' ∧ RL w' v' ls ∧ (∀ k, v'.ownBlock = some k → w.heap.size ≤ k) ∧ Below w.heap.size w w' := by
  obtain ⟨A, c, rfl, hC⟩ := RL.reads hrow
  cases A with
  | some ad => exact clone_some w ad c ls hC h8
  | none =>
    refine Calls.mono (clone_none w ls.length c) ?_
    rintro e w' ⟨rfl, rfl⟩
    have h0 : ls = [] := by
      rcases Nat.eq_zero_or_pos ls.length with q | q
      · exact List.length_eq_zero_iff.1 q
      · obtain ⟨_, e, _⟩ := hC.2.2 q
        cases e
    subst h0
    exact ⟨_, rfl, RL.nil _, fun k hk => by simp [Value.ownBlock] at hk, Below.refl _ _⟩
section
variable {w : World} {S : Nat → Prop} {sb mb : Nat} {v : Value} {xs : List PS} {st : St}
set_option maxHeartbeats 1000000 in
set_option maxRecDepth 100000 in
theorem locals_calls (h : Mem w S sb mb v xs st) (h8 : st.length ≤ 8) (hls : ∀ p ∈ st, p.ls.length ≤ 8) (n : Int) :
    Calls Try.prog 11 #[.pointer (some ⟨sb, 0, none⟩), .int .i64 n] w fun e w' => ∃ v', e = .returned v' ∧ RL w' v' (locals st n) ∧ (∀ k, v'.ownBlock = some k → w.heap.size ≤ k) ∧ Below w.heap.size w w' := by
  cases hn : at? st n with
  | none =>
    have e : locals st n = [] := by unfold locals; rw [hn]
    rw [e]
    go_enter Try.func11, Try.ntmps11
    go_wp2_with fail
    refine Calls.mono (of_none h h8 n hn) ?_
    rintro e w' ⟨rfl, rfl⟩
    go_wp2
    go_ret
    exact ⟨_, rfl, RL.nil _, fun k hk => by simp [Value.ownBlock] at hk, Below.refl _ _⟩
  | some i =>
    obtain ⟨p, x, pb, c, hp, hx, hv, hS⟩ := at_get h hn
    have e : locals st n = p.ls := by unfold locals; simp only [hn, hp]; rfl
    rw [e]
    obtain ⟨_, l2⟩ := h.like i p x hp hx
    have p4 := ((hv ▸ h.row).cell hx (j := 4) rfl).1
    have hp8 := hls p (List.mem_of_getElem? hp)
    have hcl := clone_calls w (sv x.l) p.ls l2 (by omega)
    have hof := of_some h h8 n hn hv
    obtain ⟨u, hu⟩ : ∃ u, sv x.l = u := ⟨_, rfl⟩
    rw [hu] at p4 hcl
    clear h l2 hu e hp hx hn hv hp8
    go_enter Try.func11, Try.ntmps11
    go_wp2_with fail
    refine Calls.mono hof ?_
    rintro e w' ⟨rfl, rfl⟩
    go_wp2_with fail
    refine Calls.mono hcl ?_
    rintro e w2 ⟨v', rfl, hr, hk, hb⟩
    have HR := Aside0.mk (And.intro hr (And.intro hk hb))
    clear hr hk hb
    go_wp2
    go_ret
    exact ⟨_, rfl, HR.out.1, HR.out.2.1, HR.out.2.2⟩
end
/-! One local is taken out of a row. -/
theorem cut_lhm (g n c k k2 : Nat) (h1 : k2 = k + 1) (h2 : k2 ≤ n) (h3 : n ≤ c) : ∃ u, ∀ W : World, (Instr.slice 31 (.slice (some ⟨g, 0, none⟩) n c) (some (.int .i64 (k : Int))) (some (.int .i64 (k2 : Int))) (some (.int .i64 (n : Int)))).run Try.prog W = .ok u W := by
  obtain ⟨i0, hi, _, hsz, _⟩ := info_parts (show (Try.prog.info? 34).map (fun i => (i.zero, i.size, i.bytes)) = some (some (.agg #[.bool false, .int .u64 0, .int .u64 0, .int .i64 0]), 4, 32) by kernel_rfl)
  have hel : Try.prog.elem 31 = 34 := by simp [Program.elem, Try.underlying31]
  have hu : Try.prog.underlying 31 = some (.slice (Try.prog.elem 31)) := by rw [hel]; exact Try.underlying31
  refine ⟨.slice (some ⟨g, k * 4, none⟩) 1 (n - k), fun W => ?_⟩
  rw [run_slice_lhm W 31 (some ⟨g, 0, none⟩) n c hu .i64 .i64 .i64 (k : Int) (k2 : Int) (n : Int) (by omega) (by omega) (by omega) (by omega), hel]
  have : ¬ n = k := by omega
  have h4 : k2 - k = 1 := by omega
  simp [sizeOf, typeInfo, hi, hsz, sliced, Result.andThen, this, h4]
  unfold Addr.add; split <;> simp_all
theorem cut_h (g n c k : Nat) (h1 : k < n) (h3 : n ≤ c) : ∀ W : World, (Instr.slice 31 (.slice (some ⟨g, 0, none⟩) n c) none (some (.int .i64 (k : Int))) none).run Try.prog W = .ok (.slice (some ⟨g, 0, none⟩) k c) W := by
  obtain ⟨i0, hi, _, hsz, _⟩ := info_parts (show (Try.prog.info? 34).map (fun i => (i.zero, i.size, i.bytes)) = some (some (.agg #[.bool false, .int .u64 0, .int .u64 0, .int .i64 0]), 4, 32) by kernel_rfl)
  have hel : Try.prog.elem 31 = 34 := by simp [Program.elem, Try.underlying31]
  have hu : Try.prog.underlying 31 = some (.slice (Try.prog.elem 31)) := by rw [hel]; exact Try.underlying31
  intro W
  rw [run_slice_h W 31 (some ⟨g, 0, none⟩) n c hu .i64 (k : Int) (by omega) (by omega), hel]
  have : ¬ c = 0 := by omega
  simp [sizeOf, typeInfo, hi, hsz, sliced, Result.andThen, this]
  unfold Addr.add; split <;> simp_all
theorem cut_l (g n c k2 : Nat) (h2 : k2 ≤ n) : ∀ W : World, (Instr.slice 31 (.slice (some ⟨g, 0, none⟩) n c) (some (.int .i64 (k2 : Int))) none none).run Try.prog W = .ok (.slice (some (if c = k2 then ⟨g, 0, none⟩ else ⟨g, k2 * 4, none⟩)) (n - k2) (c - k2)) W := by
  obtain ⟨i0, hi, _, hsz, _⟩ := info_parts (show (Try.prog.info? 34).map (fun i => (i.zero, i.size, i.bytes)) = some (some (.agg #[.bool false, .int .u64 0, .int .u64 0, .int .i64 0]), 4, 32) by kernel_rfl)
  have hel : Try.prog.elem 31 = 34 := by simp [Program.elem, Try.underlying31]
  have hu : Try.prog.underlying 31 = some (.slice (Try.prog.elem 31)) := by rw [hel]; exact Try.underlying31
  intro W
  rw [run_slice_l W 31 (some ⟨g, 0, none⟩) n c hu .i64 (k2 : Int) (by omega) (by omega), hel]
  by_cases h : c = k2
  · simp [sizeOf, typeInfo, hi, hsz, sliced, Result.andThen, h]
  · simp [sizeOf, typeInfo, hi, hsz, sliced, Result.andThen, h]
    unfold Addr.add; split <;> simp_all
theorem cut_lh (g n n1 c : Nat) (h1 : n = n1 + 1) (h3 : n ≤ c) : ∀ W : World, (Instr.slice 31 (.slice (some ⟨g, 0, none⟩) n1 c) (some (.int .i64 (n1 : Int))) (some (.int .i64 (n : Int))) none).run Try.prog W = .ok (.slice (some ⟨g, n1 * 4, none⟩) 1 (c - n1)) W := by
  obtain ⟨i0, hi, _, hsz, _⟩ := info_parts (show (Try.prog.info? 34).map (fun i => (i.zero, i.size, i.bytes)) = some (some (.agg #[.bool false, .int .u64 0, .int .u64 0, .int .i64 0]), 4, 32) by kernel_rfl)
  have hel : Try.prog.elem 31 = 34 := by simp [Program.elem, Try.underlying31]
  have hu : Try.prog.underlying 31 = some (.slice (Try.prog.elem 31)) := by rw [hel]; exact Try.underlying31
  intro W
  rw [run_slice_lh W 31 (some ⟨g, 0, none⟩) n1 c hu .i64 .i64 (n1 : Int) (n : Int) (by omega) (by omega) (by omega), hel]
  have : ¬ c = n1 := by omega
  have h4 : n - n1 = 1 := by omega
  simp [sizeOf, typeInfo, hi, hsz, sliced, Result.andThen, this, h4]
  unfold Addr.add; split <;> simp_all
abbrev zcs : List Value := [.bool false, .int .u64 0, .int .u64 0, .int .i64 0]
theorem run_clear1 (W : World) (g o c : Nat) (ty : TypeId) {cur : Array Value} (h : W.heap[g]? = some (.cells cur 34 (0, 0))) (hl : o + 4 ≤ cur.size) :
    (Builtin.clear_ #[31] ty #[.slice (some ⟨g, o, none⟩) 1 c]).run Try.prog W = .ok (.tuple #[]) (W.setCells g o zcs) := by
  have hv : ∀ w, (zeroValue 34).run Try.prog w = .ok (.agg #[.bool false, .int .u64 0, .int .u64 0, .int .i64 0]) w := fun w => by kernel_rfl
  have hzc : (Builtin.zeroCells (Value.agg #[.bool false, .int .u64 0, .int .u64 0, .int .i64 0]).cells 1).toList = zcs := by kernel_rfl
  have hst := run_storeCells_cells (P := Try.prog) g o zcs 0 W (fun j hj => by rw [cell_of_row W g _ cur 34 (0, 0) h]; simp at hj ⊢; omega) (fun j hj => MStr.block_frozen h) (by intro v hv'; simp only [List.mem_cons, List.not_mem_nil, or_false] at hv'; rcases hv' with rfl | rfl | rfl | rfl <;> rfl)
  simp only [Nat.add_zero] at hst
  simp [Builtin.clear_, run_underlying Try.underlying31, hv, hzc, hst]
/-- The block behind a deletion. -/
theorem del_row {w w2 : World} {g n c k k2 n1 : Nat} {ls : List Lo} (h : RL w (.slice (some ⟨g, 0, none⟩) n c) ls) (hn : ls.length = n) (hk : k2 = k + 1) (h2 : k2 ≤ n) (h1 : n = n1 + 1) {inner : List Value} (hin : ∃ cur : Array Value, w.heap[g]? = some (.cells cur 34 (0, 0)) ∧ cur.size = c * 4 ∧ n ≤ c ∧ c ≤ maxLen ∧ cur.toList.take (n * 4) = inner ∧ Reps (k34.M w 0 fun _ => True) 4 ls inner)
    (e : w2 = (w.drew.setCells g (k * 4) (inner.drop (k2 * 4))).setCells g (n1 * 4) zcs) : RL w2 (.slice (some ⟨g, 0, none⟩) n1 c) (ls.eraseIdx k) ∧ w2.os = w.os ∧ w2.tape = w.tape ∧ w2.output = w.output ∧ w2.heap.size = w.heap.size ∧ ∀ j, j ≠ g → w2.heap[j]? = w.heap[j]? := by
  obtain ⟨cur, hcur, hcs, hnc, hcm, hct, hreps⟩ := hin
  have hil : inner.length = n * 4 := by rw [← hct, List.length_take, Array.length_toList]; omega
  have hnl : (inner.drop (k2 * 4)).length = (n - k2) * 4 := by rw [List.length_drop, hil]; omega
  obtain ⟨cur1, hc1, hz1, ht1⟩ := setCells_row (inner.drop (k2 * 4)) (k * 4) w.drew cur hcur (by rw [hnl]; omega)
  obtain ⟨cur2, hc2, hz2, ht2⟩ := setCells_row zcs (n1 * 4) (w.drew.setCells g (k * 4) (inner.drop (k2 * 4))) cur1 hc1 (by simp only [List.length_cons, List.length_nil]; omega)
  rw [← e] at hc2
  obtain ⟨a1, a2, a3, a4⟩ := setCells_same g zcs (n1 * 4) (w.drew.setCells g (k * 4) (inner.drop (k2 * 4)))
  obtain ⟨b1, b2, b3, b4⟩ := setCells_same g (inner.drop (k2 * 4)) (k * 4) w.drew
  rw [← e] at a1 a2 a3 a4
  have hle : (ls.eraseIdx k).length = n1 := by rw [List.length_eraseIdx, if_pos (by omega)]; omega
  refine ⟨RL.of (base := 0) (ok := fun _ => True) ⟨fun _ _ => trivial, inner.take (k * 4) ++ inner.drop (k2 * 4), ?_, ?_⟩, a1.trans b1, a2.trans b2, a3.trans b3, a4.trans b4, fun j hj => ?_⟩
  · rw [hle]
    refine ⟨by rw [List.length_append, List.length_take, hnl, hil]; show _ = n1 * 4; omega, .inr ⟨g, c, cur2, rfl, Nat.zero_le _, hc2, by omega, hcm, by rw [hz2, hz1, hcs]; rfl, ?_⟩⟩
    have hkl : (cur.toList.take (k * 4)).length = k * 4 := by rw [List.length_take, Array.length_toList]; omega
    have hl1 : (cur.toList.take (k * 4) ++ inner.drop (k2 * 4)).length = n1 * 4 := by rw [List.length_append, hkl, hnl]; omega
    have hA : cur1.toList.take (n1 * 4) = cur.toList.take (k * 4) ++ inner.drop (k2 * 4) := by
      rw [ht1, List.take_append_of_le_length (by omega), List.take_of_length_le (by omega)]
    have hI : inner.take (k * 4) = cur.toList.take (k * 4) := by rw [← hct, List.take_take, Nat.min_eq_left (by omega)]
    rw [ht2, hA, List.append_assoc, hI]
    show ((_ ++ _ : List Value)).take (n1 * 4) = _
    rw [List.take_append_of_le_length (by omega), List.take_of_length_le (by omega)]
  · rw [List.eraseIdx_eq_take_drop_succ, ← hk]
    refine (Kd.reps_append (Kd.reps_take hreps (by omega)) (Kd.reps_drop hreps)).imp_ (fun y cs hq => ?_)
    obtain rfl := k34_openM hq
    exact k34_mkM _ _ _ _
  · rw [e, setCells_far _ _ _ hj, setCells_far _ _ _ hj]; rfl
set_option maxHeartbeats 2000000 in
set_option maxRecDepth 100000 in
theorem delete_calls (w : World) (g c : Nat) (ls : List Lo) (n k k2 n1 : Nat) (hrow : RL w (.slice (some ⟨g, 0, none⟩) n c) ls) (hn : ls.length = n) (hk2 : k2 = k + 1) (hk : k2 ≤ n) (hn1 : n = n1 + 1) (h8 : n ≤ 1000000) :
    Calls Try.prog 51 #[.slice (some ⟨g, 0, none⟩) n c, .int .i64 (k : Int), .int .i64 (k2 : Int)] w fun e w' => e = .returned (.slice (some ⟨g, 0, none⟩) n1 c) ∧ RL w' (.slice (some ⟨g, 0, none⟩) n1 c) (ls.eraseIdx k) ∧ w'.os = w.os ∧ w'.tape = w.tape ∧ w'.output = w.output ∧ w'.heap.size = w.heap.size ∧ ∀ j, j ≠ g → w'.heap[j]? = w.heap[j]? := by
  obtain ⟨_, inner, hown, hreps⟩ := hrow
  obtain ⟨hil, hown⟩ := hown
  rw [hn] at hil
  rcases hown with ⟨q, _⟩ | ⟨g', cap, cur, q, _, hcur, hnc, hcm, hcs, hct⟩
  · cases q
  obtain ⟨rfl, rfl⟩ : g = g' ∧ c = cap := by injection q with q1 q2 q3; injection q1 with q1; injection q1 with q1; exact ⟨q1, q3⟩
  clear q
  rw [hn] at hnc hct
  replace hcs : cur.size = c * 4 := hcs
  replace hct : cur.toList.take (n * 4) = inner := hct
  replace hil : inner.length = n * 4 := hil
  have hnl : (inner.drop (k2 * 4)).length = (n - k2) * 4 := by rw [List.length_drop, hil]; omega
  have HIN := Aside0.mk (show ∃ cur : Array Value, w.heap[g]? = some (.cells cur 34 (0, 0)) ∧ cur.size = c * 4 ∧ n ≤ c ∧ c ≤ maxLen ∧ cur.toList.take (n * 4) = inner ∧ Reps (k34.M w 0 fun _ => True) 4 ls inner from ⟨cur, hcur, hcs, hnc, hcm, hct, hreps.imp_ (fun y cs hq => by obtain rfl := k34_openM hq; exact k34_mkM _ _ _ _)⟩)
  have HROW := Aside0.mk (show RL w (.slice (some ⟨g, 0, none⟩) n c) ls from ⟨fun _ hk => hk, inner, ⟨by rw [hn]; exact hil, .inr ⟨g, c, cur, by rw [hn], Nat.zero_le _, hcur, by omega, hcm, hcs, by rw [hn]; exact hct⟩⟩, hreps⟩)
  have hone : ∀ u ∈ inner, u.oneCell' = true := Kd.reps_one hreps (by decide) (fun p cs hq => by obtain rfl := k34_openM hq; intro u hu; simp only [List.mem_cons, List.not_mem_nil, or_false] at hu; rcases hu with rfl | rfl | rfl | rfl <;> rfl)
  obtain ⟨news, hnews⟩ : ∃ news, inner.drop (k2 * 4) = news := ⟨_, rfl⟩
  obtain ⟨AD, hAD⟩ : ∃ AD, (if c = k2 then (⟨g, 0, none⟩ : Addr) else ⟨g, k2 * 4, none⟩) = AD := ⟨_, rfl⟩
  have hcl := cut_l g n c k2 hk
  rw [hAD] at hcl
  have hch := cut_h g n c k (by omega) hnc
  have hclh := cut_lh g n n1 c hn1 hnc
  obtain ⟨u3, hlhm⟩ := cut_lhm g n c k k2 hk2 hk hnc
  rw [hnews] at hnl
  have s1 := Aside0.mk hnl
  have s2 := Aside0.mk (show ∀ u ∈ news, u.oneCell' = true from fun u hu => hone u (List.mem_of_mem_drop (hnews ▸ hu)))
  have hsrc := Aside0.mk (show ∀ t u, news[t]? = some u → w.drew.cell? (AD.add t) = some u from fun t u ht => by
    have htl := (List.getElem?_eq_some_iff.1 ht).1
    have hck : ¬ c = k2 := fun e => by rw [hnl] at htl; omega
    have hlt : k2 * 4 + t < n * 4 := by rw [hnl] at htl; omega
    have ha : (⟨g, k2 * 4, none⟩ : Addr).add t = ⟨g, k2 * 4 + t, none⟩ := by unfold Addr.add; split <;> simp_all
    rw [← hnews, List.getElem?_drop, ← hct, List.getElem?_take, if_pos hlt] at ht
    rw [← hAD, if_neg hck, ha, cell_of_row w.drew g _ cur 34 (0, 0) hcur]
    simpa using ht)
  have s3 := Aside0.mk (show ∀ t, t < news.length → (w.drew.cell? ⟨g, 0 + k * 4 + t, none⟩).isSome = true ∧ w.drew.frozen? ⟨g, 0 + k * 4 + t, none⟩ = false from fun t ht => by
    refine ⟨?_, MStr.block_frozen (w := w.drew) hcur⟩
    rw [cell_of_row w.drew g _ cur 34 (0, 0) hcur]
    rw [hnl] at ht
    have : 0 + k * 4 + t < cur.size := by rw [hcs]; omega
    rw [Nat.zero_add] at this
    simp [this])
  obtain ⟨W1, hW1⟩ : ∃ W1, w.drew.setCells g (0 + k * 4) news = W1 := ⟨_, rfl⟩
  have HW1 := Aside0.mk hW1
  have hkn : k + (n - k2) = n1 := by omega
  have HKN := Aside0.mk hkn
  have hclr : ∀ ty, (Builtin.clear_ #[31] ty #[.slice (some ⟨g, n1 * 4, none⟩) 1 (c - n1)]).run Try.prog W1 = .ok (.tuple #[]) (W1.setCells g (n1 * 4) zcs) := fun ty => by
    obtain ⟨cur1, hc1, hz1, _⟩ := setCells_row news (0 + k * 4) w.drew cur hcur (by rw [hnl, hcs]; omega)
    rw [hW1] at hc1
    exact run_clear1 W1 g (n1 * 4) (c - n1) ty hc1 (by rw [hz1, hcs]; omega)
  have hne : ((k : Int) == (k2 : Int)) = false := by simpa using (by omega : ¬ (k : Int) = (k2 : Int))
  have HEQ := Aside0.mk (show ls.length = n ∧ k2 = k + 1 ∧ n = n1 + 1 ∧ k2 ≤ n ∧ n ≤ 1000000 ∧ inner.drop (k2 * 4) = news from ⟨hn, hk2, hn1, hk, h8, hnews⟩)
  have HNC := Aside0.mk hnc
  obtain ⟨i0, hi0, hz0, hz1, hz2⟩ := info_parts (show (Try.prog.info? 34).map (fun i => (i.zero, i.size, i.bytes)) = some (some (.agg #[.bool false, .int .u64 0, .int .u64 0, .int .i64 0]), 4, 32) by kernel_rfl)
  have s4 := Aside0.mk (show k + (n - k2) ≤ c by omega)
  clear hil hcur hnc hcm hcs hct hreps hone hAD hW1 hnl hkn hn hk2 hn1 hk h8 hnews
  go_enter Try.func51, Try.ntmps51
  go_wp2_with fail
  go_region_law (refine step_append_room rfl (.tmp 22) (.tmp 25) 31 rfl 34 i0 4 Try.underlying31 hi0 hz1 g 0 k c (by simp [Act.eval, Act.put]) AD (n - k2) (c - k2) news (by simp [Act.eval, Act.put]) s1.out hsrc.out s2.out s4.out s3.out ?_; rw [HW1.out])
  simp only [HKN.out]
  go_wp2
  go_ret
  refine ⟨rfl, ?_⟩
  obtain ⟨e1, e2, e3, e4, e5, e6⟩ := HEQ.out
  exact del_row HROW.out e1 e2 e4 e3 HIN.out (by rw [e6, ← HW1.out, Nat.zero_add])
section
variable {w : World} {S : Nat → Prop} {sb mb : Nat} {v : Value} {xs : List PS} {st : St}
theorem drop_fin {w0 w3 w4 : World} (hb : Below w0.heap.size w0 w3) (h : Mem w3 S sb mb v xs st) {pb n c i : Nat} (hv : v = .slice (some ⟨pb, 0, none⟩) n c) {p : Pt} {x : PS} (hp : st[i]? = some p) (hx : xs[i]? = some x) {gg c' n1 : Nat} (hel : sv x.l = .slice (some ⟨gg, 0, none⟩) p.ls.length c')
    {ls' : List Lo} (f : Pt → Pt) (hf : f p = { p with ls := ls' }) (hr : RL w4 (.slice (some ⟨gg, 0, none⟩) n1 c') ls') (ho : w4.os = w3.os ∧ w4.tape = w3.tape ∧ w4.output = w3.output ∧ w4.heap.size = w3.heap.size ∧ ∀ j, j ≠ gg → w4.heap[j]? = w3.heap[j]?) :
    Stepped w0 (w4.setCell ⟨pb, i * 5 + 4, none⟩ (.slice (some ⟨gg, 0, none⟩) n1 c')) S sb mb (st.modify i f) := by
  obtain ⟨o1, o2, o3, o4, o5⟩ := ho
  have hvo : v.ownBlock = some pb := by rw [hv]; rfl
  obtain ⟨cp, hcp⟩ := h.row.typed pb hvo
  have hl := (h.like i p x hp hx).2
  rw [hel] at hl
  have hgp : pb ≠ gg := fun e => by
    obtain ⟨cs, hc⟩ := hl.typed gg rfl
    rw [← e, hcp] at hc; injection hc with hc; injection hc with _ hc; exact absurd hc (by decide)
  have hSg : S gg := h.its.2.2.2 x (List.mem_of_getElem? hx) gg (by rw [hel]; rfl)
  have hfar : ∀ k, k ≠ pb → (w4.setCell ⟨pb, i * 5 + 4, none⟩ (.slice (some ⟨gg, 0, none⟩) n1 c')).heap[k]? = w4.heap[k]? := fun k hk => Below.heap_setCell w4 _ _ k hk
  have hss : (w4.setCell ⟨pb, i * 5 + 4, none⟩ (.slice (some ⟨gg, 0, none⟩) n1 c')).heap.size = w4.heap.size := by simp [World.setCell]
  have hm := mem_lset (w' := w4.setCell ⟨pb, i * 5 + 4, none⟩ (.slice (some ⟨gg, 0, none⟩) n1 c')) h hv hp hx ⟨some ⟨gg, 0, none⟩, n1, c'⟩ ls' ?_ ?_ ?_ ?_ ?_
  · rw [modify_of hp f (fun q => { q with ls := ls' }) hf]
    refine ⟨_, _, _, hm, ?_, ?_⟩
    · intro k hk
      rcases hk with q | q
      · exact .inl q
      · obtain rfl : gg = k := Option.some.inj q
        exact .inl hSg
    · refine ⟨o1.trans hb.os, o2.trans hb.tape, o3.trans hb.output, by have := hb.size; omega, fun k hk hn => ?_⟩
      exact ((hfar k (fun e => hn (e ▸ h.its.2.2.1 pb hvo))).trans (o5 k (fun e => hn (e ▸ hSg)))).trans (hb.block k hk)
  · have h4 := (o5 pb hgp).trans hcp
    rw [MReader.setCell_heap h4, MReader.setCell_heap hcp]
    rfl
  · exact hr.keep (fun k hk => hfar k (by obtain rfl : gg = k := Option.some.inj hk; exact fun e => hgp e.symm))
  · intro k hk
    obtain rfl : gg = k := Option.some.inj hk
    exact .inl (by rw [hel]; rfl)
  · intro k h1 h2 h3
    refine (hfar k h2).trans (o5 k (fun e => h3 ?_))
    rw [hel, e]; rfl
  · omega
set_option maxHeartbeats 1000000 in
set_option maxRecDepth 100000 in
theorem drop_none (h : Mem w S sb mb v xs st) (h8 : st.length ≤ 8) (n : Int) (a : Ad) (hn : at? st n = none) :
    Calls Try.prog 31 #[.pointer (some ⟨sb, 0, none⟩), .int .i64 n, .agg #[.bool a.f0, .int .u64 a.f1, .int .u64 a.f2]] w fun e w' => e = .returned (.int .i64 132) ∧ Below w.heap.size w w' := by
  have HB := Aside0.mk (Below.refl w.heap.size w)
  go_enter Try.func31, Try.ntmps31
  go_wp2_with (first | ((with_reducible refine gate_dst (N := 5) rfl ?_); refine sh_E 5 25 #[.bool a.f0, .int .u64 a.f1, .int .u64 a.f2] ?_; intro g hg w1 hbox hb; replace HB := sh_S HB hb; have HM := Aside0.mk (h.below hb); clear hbox hb hg) | fail)
  refine Calls.mono (of_none HM.out h8 n hn) ?_
  rintro e w' ⟨rfl, rfl⟩
  go_wp2
  go_ret
  exact ⟨rfl, HB.out⟩
set_option maxHeartbeats 1000000 in
set_option maxRecDepth 100000 in
theorem drop_not (h : Mem w S sb mb v xs st) (h8 : st.length ≤ 8) (hls : ∀ p ∈ st, p.ls.length ≤ 8) (n : Int) (a : Ad) {i : Nat} (hn : at? st n = some i) {p : Pt} (hp : st[i]? = some p) (hno : place p.ls a = none) :
    Calls Try.prog 31 #[.pointer (some ⟨sb, 0, none⟩), .int .i64 n, .agg #[.bool a.f0, .int .u64 a.f1, .int .u64 a.f2]] w fun e w' => e = .returned (.int .i64 132) ∧ Below w.heap.size w w' := by
  have HB := Aside0.mk (Below.refl w.heap.size w)
  obtain ⟨p', x, pb, c, hp', hx, hv, hS⟩ := at_get h hn
  obtain rfl : p = p' := Option.some.inj (hp.symm.trans hp')
  have hp8 := hls p (List.mem_of_getElem? hp)
  have hpl := fun W (hW : Mem W S sb mb v xs st) => place_calls W pb i (sv x.l) p.ls (hW.like i p x hp hx).2 hp8 ((hv ▸ hW.row).cell hx (j := 4) rfl).1 a
  have hidx : idx p.ls a = -1 := by unfold idx; rw [hno]
  rw [hidx] at hpl
  go_enter Try.func31, Try.ntmps31
  go_wp2_with (first | ((with_reducible refine gate_dst (N := 5) rfl ?_); refine sh_E 5 25 #[.bool a.f0, .int .u64 a.f1, .int .u64 a.f2] ?_; intro g hg w1 hbox hb; replace HB := sh_S HB hb; obtain ⟨c0, c1, c2⟩ := MBlk.c3 hbox; have HM := Aside0.mk (h.below hb); clear hbox hb hg) | fail)
  refine Calls.mono (of_some HM.out h8 n hn hv) ?_
  rintro e w' ⟨rfl, rfl⟩
  go_wp2_with fail
  refine Calls.mono (hpl _ HM.out) ?_
  rintro e w2 ⟨rfl, hb⟩
  have HB2 := Aside0.mk (sh_S HB hb).out
  clear hb
  go_wp2
  go_ret
  exact ⟨rfl, HB2.out⟩
set_option maxHeartbeats 1000000 in
set_option maxRecDepth 100000 in
theorem drop_done (h : Mem w S sb mb v xs st) (h8 : st.length ≤ 8) (hls : ∀ p ∈ st, p.ls.length ≤ 8) (n : Int) (a : Ad) {i : Nat} (hn : at? st n = some i) {p : Pt} (hp : st[i]? = some p) {k : Nat} (hk : place p.ls a = some k) :
    Calls Try.prog 31 #[.pointer (some ⟨sb, 0, none⟩), .int .i64 n, .agg #[.bool a.f0, .int .u64 a.f1, .int .u64 a.f2]] w fun e w' => e = .returned (.int .i64 0) ∧ Stepped w w' S sb mb (st.modify i fun p => { p with ls := p.ls.eraseIdx k }) := by
  have HB := Aside0.mk (Below.refl w.heap.size w)
  obtain ⟨p', x, pb, c, hp', hx, hv, hS⟩ := at_get h hn
  obtain rfl : p = p' := Option.some.inj (hp.symm.trans hp')
  have hp8 := hls p (List.mem_of_getElem? hp)
  have hpl := fun W (hW : Mem W S sb mb v xs st) => place_calls W pb i (sv x.l) p.ls (hW.like i p x hp hx).2 hp8 ((hv ▸ hW.row).cell hx (j := 4) rfl).1 a
  have hkl := place_lt hk
  have hidx : idx p.ls a = (k : Int) := by unfold idx; rw [hk]
  rw [hidx] at hpl
  obtain ⟨gg, c', hel⟩ := (h.like i p x hp hx).2.shape (by omega)
  obtain ⟨nn, hnn⟩ : ∃ nn, p.ls.length = nn := ⟨_, rfl⟩
  rw [hnn] at hel
  obtain ⟨n1, hn1⟩ : ∃ n1, nn = n1 + 1 := ⟨nn - 1, by omega⟩
  obtain ⟨k2, hk2⟩ : ∃ k2, k2 = k + 1 := ⟨_, rfl⟩
  have hdel := fun W (hW : Mem W S sb mb v xs st) => delete_calls W gg c' p.ls nn k k2 n1 (hel ▸ (hW.like i p x hp hx).2) hnn hk2 (by omega) hn1 (by omega)
  have hw : wrap64 ((k : Int) + 1) = (k2 : Int) := by unfold wrap64; omega
  have h0 : decide ((k : Int) < 0) = false := decide_eq_false (by omega)
  have hcl := fun W (hW : Mem W S sb mb v xs st) => (hv ▸ hW.row).cell hx (j := 4) rfl
  have HPBG := Aside0.mk (show pb ≠ gg from fun e => by
    obtain ⟨cp, hcp⟩ := h.row.typed pb (by rw [hv]; rfl)
    obtain ⟨cs, hc⟩ := (h.like i p x hp hx).2.typed gg (by rw [hel]; rfl)
    rw [← e, hcp] at hc; injection hc with hc; injection hc with _ hc; exact absurd hc (by decide))
  have HEL := Aside0.mk (show sv x.l = .slice (some ⟨gg, 0, none⟩) p.ls.length c' by rw [hel, hnn])
  rw [hel] at hcl
  clear hp8 hkl hidx hk hel hnn hn1 hk2
  go_enter Try.func31, Try.ntmps31
  go_wp2_with (first | ((with_reducible refine gate_dst (N := 5) rfl ?_); refine sh_E 5 25 #[.bool a.f0, .int .u64 a.f1, .int .u64 a.f2] ?_; intro g hg w1 hbox hb; replace HB := sh_S HB hb; obtain ⟨c0, c1, c2⟩ := MBlk.c3 hbox; have HM := Aside0.mk (h.below hb); clear hbox hb hg) | fail)
  refine Calls.mono (of_some HM.out h8 n hn hv) ?_
  rintro e w' ⟨rfl, rfl⟩
  go_wp2_with fail
  refine Calls.mono (hpl _ HM.out) ?_
  rintro e w2 ⟨rfl, hb⟩
  have HB2 := Aside0.mk (sh_S HB hb).out
  have HM2 := Aside0.mk (HM.out.below hb)
  replace c0 := pw_cell_below hb c0
  replace c1 := pw_cell_below hb c1
  replace c2 := pw_cell_below hb c2
  clear hb
  go_wp2_with fail
  refine Calls.mono (hpl _ HM2.out) ?_
  rintro e w3 ⟨rfl, hb⟩
  have HB3 := Aside0.mk (sh_S HB2 hb).out
  have HM3 := Aside0.mk (HM2.out.below hb)
  obtain ⟨p4, f4⟩ := hcl _ HM3.out
  clear hb HB HB2 HM HM2 c0 c1 c2
  go_wp2_with fail
  refine Calls.mono (hdel _ HM3.out) ?_
  rintro e w4 ⟨rfl, hr, ho⟩
  have HR := Aside0.mk hr
  have HO := Aside0.mk ho
  have hpb := ho.2.2.2.2 pb HPBG.out
  have p44 := (World.cell?_of_block (a := ⟨pb, i * 5 + 4, none⟩) hpb).trans p4
  have f44 := (World.frozen?_of_block (a := ⟨pb, i * 5 + 4, none⟩) hpb).trans f4
  clear hr ho hpb p4 f4
  go_wp2
  go_ret
  exact ⟨rfl, drop_fin HB3.out HM3.out hv hp hx HEL.out _ rfl HR.out HO.out⟩
theorem drop_calls (h : Mem w S sb mb v xs st) (h8 : st.length ≤ 8) (hls : ∀ p ∈ st, p.ls.length ≤ 8) (n : Int) (a : Ad) :
    Calls Try.prog 31 #[.pointer (some ⟨sb, 0, none⟩), .int .i64 n, .agg #[.bool a.f0, .int .u64 a.f1, .int .u64 a.f2]] w fun e w' => e = .returned (.int .i64 (drop st n a).2) ∧ Stepped w w' S sb mb (drop st n a).1 := by
  cases hn : at? st n with
  | none =>
    have e : drop st n a = (st, 132) := by unfold drop; rw [hn]
    rw [e]
    exact Calls.mono (drop_none h h8 n a hn) (fun _ _ q => ⟨q.1, Stepped.same h q.2⟩)
  | some i =>
    obtain ⟨p, x, pb, c, hp, hx, hv, hS⟩ := at_get h hn
    have hl : (st[i]?.map (·.ls)).getD [] = p.ls := by rw [hp]; rfl
    cases hk : place p.ls a with
    | none =>
      have e : drop st n a = (st, 132) := by unfold drop; simp only [hn, hl, hk]
      rw [e]
      exact Calls.mono (drop_not h h8 hls n a hn hp hk) (fun _ _ q => ⟨q.1, Stepped.same h q.2⟩)
    | some k =>
      have e : drop st n a = (st.modify i fun p => { p with ls := p.ls.eraseIdx k }, 0) := by unfold drop; simp only [hn, hl, hk]
      rw [e]
      exact drop_done h h8 hls n a hn hp hk
end
end Go.Proofs.Ytefbcigccfkkgaa.WIf
