import Derived.Test.YtefbcigccfkkgaaWIfaceA
import Derived.Deep.RegionLaw
import Derived.Deep.MidRow
import Derived.Lib.SliceRun
import Derived.Laws.BitsLemmas
set_option linter.unusedVariables false
set_option linter.unusedSimpArgs false
namespace Go.Proofs.Ytefbcigccfkkgaa.WIf
open Go.RowKit Go.Maps Go.WideMaps Go.Proofs.Ytefbcigccfkkgaa.PBase Go.Proofs.YtefbcigccfkkgaaW.PrintWords Go.Proofs.YtefbcigccfkkgaaW.PrintLast Go.Proofs.YtefbcigccfkkgaaW.PrintMore Go.Proofs.Ytefbcigccfkkgaa.If
attribute [local go_sem] max2_int min2_int max_two min_two
set_option maxHeartbeats 1000000 in
set_option maxRecDepth 100000 in
theorem clone_some (w : World) (ad : Addr) (c : Nat) (ls : List Lo) (hC : k34.C w (some ad) ls.length ls) (h8 : ls.length ≤ 1000000) :
    Calls Try.prog 29 #[.slice (some ad) ls.length c] w fun e w' => ∃ v', e = .returned v' ∧ RL w' v' ls ∧ (∀ k, v'.ownBlock = some k → w.heap.size ≤ k) ∧ Below w.heap.size w w' := by
  have HC := Aside0.mk hC
  have HL := Aside0.mk h8
  clear hC h8
  have q31 : ∀ (w : World) (a : Option Addr) (n c n' c' : Nat), (binOp .eql 31 (.slice a n c) (.slice none n' c')).run Try.prog w = .ok (.bool a.isNone) w := fun w a n c n' c' => Lib.run_eql_slice_nil w _ _ a n c n' c' Try.underlying31
  go_enter Try.func29, Try.ntmps29
  go_wp2_with (first | ((with_reducible refine gate_builtin (b := .append) (xs := #[.tmp 5, .tmp 6]) rfl ?_); at_builtin; refine Kd.R_append_rows k34 (Rr := Kd.K k34 (w.alloc (.cells #[] 34))) (w0 := w) w.heap.size rfl (.tmp 5) (.tmp 6) 31 34 (.agg #[.bool false, .int .u64 0, .int .u64 0, .int .i64 0]) 32 rfl Try.underlying31 (by kernel_rfl) rfl (by decide) (by decide) (.slice (some ⟨w.heap.size, 0, none⟩) 0 0) [] ls _ _ _ (fun _ => True) (fun _ => False) rfl rfl ?aO ?aR ?aK (fun _ h => h.elim) (fun _ _ => trivial) ?aB ?aS ?aL ?_; (case aO => exact ⟨fun _ _ => trivial, [], World.ownsRow_made w #[] 0 (Nat.le_refl _) (Nat.zero_le _) rfl, Reps.none _ _⟩); (case aR => exact Kd.C_below HC.out (below_alloc (Below.refl _ _) _)); (case aK => exact (fun y cs hq => by obtain rfl := k34_open hq; exact k34_mkM _ _ _ _)); (case aB => exact below_alloc (Below.refl _ _) _); (case aS => simp); (case aL => simp only [List.length_nil]; have := HL.out; omega); intro v1 w1 ho hb hg hat; have HO := Aside0.mk ho; have HAT := Aside0.mk hat; have HB := Aside0.mk hb; clear ho hb hg hat) | fail)
  go_ret
  refine ⟨v1, rfl, RL.of (by simpa using HO.out), fun k hk => ?_, HB.out⟩
  rcases HAT.out with e | ⟨b, e, hle⟩
  · rw [e] at hk
    have : w.heap.size = k := Option.some.inj hk
    omega
  · rw [e] at hk
    have := Option.some.inj hk
    have h2 : (w.alloc (.cells #[] 34)).heap.size = w.heap.size + 1 := Array.size_push ..
    omega
set_option maxHeartbeats 1000000 in
set_option maxRecDepth 100000 in
theorem clone_none (w : World) (n c : Nat) :
    Calls Try.prog 29 #[.slice none n c] w fun e w' => e = .returned (.slice none 0 0) ∧ w = w' := by
  have q31 : ∀ (w : World) (a : Option Addr) (n c n' c' : Nat), (binOp .eql 31 (.slice a n c) (.slice none n' c')).run Try.prog w = .ok (.bool a.isNone) w := fun w a n c n' c' => Lib.run_eql_slice_nil w _ _ a n c n' c' Try.underlying31
  go_enter Try.func29, Try.ntmps29
  go_wp2
  go_ret
  exact ⟨rfl, rfl⟩
theorem clone_calls (w : World) (v : Value) (ls : List Lo) (hrow : RL w v ls) (h8 : ls.length ≤ 1000000) :
    Calls Try.prog 29 #[v] w fun e w' => ∃ v', e = .returned v' ∧ RL w' v' ls ∧ (∀ k, v'.ownBlock = some k → w.heap.size ≤ k) ∧ Below w.heap.size w w' := by
  obtain ⟨A, c, rfl, hC⟩ := RL.reads hrow
  cases A with
  | some ad => exact clone_some w ad c ls hC h8
  | none =>
    refine Calls.mono (clone_none w ls.length c) ?_
    rintro e w' ⟨rfl, rfl⟩
    have h0 : ls = [] := by
      rcases Nat.eq_zero_or_pos ls.length with q | q
      · exact List.length_eq_zero_iff.1 q
      · obtain ⟨_, e, _⟩ := hC.2.2 q
        cases e
    subst h0
    exact ⟨_, rfl, RL.nil _, fun k hk => by simp [Value.ownBlock] at hk, Below.refl _ _⟩
section
variable {w : World} {S : Nat → Prop} {sb mb : Nat} {v : Value} {xs : List PS} {st : St}
set_option maxHeartbeats 1000000 in
set_option maxRecDepth 100000 in
theorem locals_calls (h : Mem w S sb mb v xs st) (h8 : st.length ≤ 8) (hls : ∀ p ∈ st, p.ls.length ≤ 8) (n : Int) :
    Calls Try.prog 11 #[.pointer (some ⟨sb, 0, none⟩), .int .i64 n] w fun e w' => ∃ v', e = .returned v' ∧ RL w' v' (locals st n) ∧ (∀ k, v'.ownBlock = some k → w.heap.size ≤ k) ∧ Below w.heap.size w w' := by
  cases hn : at? st n with
  | none =>
    have e : locals st n = [] := by unfold locals; rw [hn]
    rw [e]
    go_enter Try.func11, Try.ntmps11
    go_wp2_with fail
    refine Calls.mono (of_none h h8 n hn) ?_
    rintro e w' ⟨rfl, rfl⟩
    go_wp2
    go_ret
    exact ⟨_, rfl, RL.nil _, fun k hk => by simp [Value.ownBlock] at hk, Below.refl _ _⟩
  | some i =>
    obtain ⟨p, x, pb, c, hp, hx, hv, hS⟩ := at_get h hn
    have e : locals st n = p.ls := by unfold locals; simp only [hn, hp]; rfl
    rw [e]
    obtain ⟨_, l2⟩ := h.like i p x hp hx
    have p4 := ((hv ▸ h.row).cell hx (j := 4) rfl).1
    have hp8 := hls p (List.mem_of_getElem? hp)
    have hcl := clone_calls w (sv x.l) p.ls l2 (by omega)
    have hof := of_some h h8 n hn hv
    obtain ⟨u, hu⟩ : ∃ u, sv x.l = u := ⟨_, rfl⟩
    rw [hu] at p4 hcl
    clear h l2 hu e hp hx hn hv hp8
    go_enter Try.func11, Try.ntmps11
    go_wp2_with fail
    refine Calls.mono hof ?_
    rintro e w' ⟨rfl, rfl⟩
    go_wp2_with fail
    refine Calls.mono hcl ?_
    rintro e w2 ⟨v', rfl, hr, hk, hb⟩
    have HR := Aside0.mk (And.intro hr (And.intro hk hb))
    clear hr hk hb
    go_wp2
    go_ret
    exact ⟨_, rfl, HR.out.1, HR.out.2.1, HR.out.2.2⟩
end
theorem cut_lhm (g n c k k2 : Nat) (h1 : k2 = k + 1) (h2 : k2 ≤ n) (h3 : n ≤ c) : ∃ u, ∀ W : World, (Instr.slice 31 (.slice (some ⟨g, 0, none⟩) n c) (some (.int .i64 (k : Int))) (some (.int .i64 (k2 : Int))) (some (.int .i64 (n : Int)))).run Try.prog W = .ok u W := by
  obtain ⟨i0, hi, _, hsz, _⟩ := info_parts (show (Try.prog.info? 34).map (fun i => (i.zero, i.size, i.bytes)) = some (some (.agg #[.bool false, .int .u64 0, .int .u64 0, .int .i64 0]), 4, 32) by kernel_rfl)
  have hel : Try.prog.elem 31 = 34 := by simp [Program.elem, Try.underlying31]
  have hu : Try.prog.underlying 31 = some (.slice (Try.prog.elem 31)) := by rw [hel]; exact Try.underlying31
  refine ⟨.slice (some ⟨g, k * 4, none⟩) 1 (n - k), fun W => ?_⟩
  rw [run_slice_lhm W 31 (some ⟨g, 0, none⟩) n c hu .i64 .i64 .i64 (k : Int) (k2 : Int) (n : Int) (by omega) (by omega) (by omega) (by omega), hel]
  have : ¬ n = k := by omega
  have h4 : k2 - k = 1 := by omega
  simp [sizeOf, typeInfo, hi, hsz, sliced, Result.andThen, this, h4]
  unfold Addr.add; split <;> simp_all
theorem cut_h (g n c k : Nat) (h1 : k < n) (h3 : n ≤ c) : ∀ W : World, (Instr.slice 31 (.slice (some ⟨g, 0, none⟩) n c) none (some (.int .i64 (k : Int))) none).run Try.prog W = .ok (.slice (some ⟨g, 0, none⟩) k c) W := by
  obtain ⟨i0, hi, _, hsz, _⟩ := info_parts (show (Try.prog.info? 34).map (fun i => (i.zero, i.size, i.bytes)) = some (some (.agg #[.bool false, .int .u64 0, .int .u64 0, .int .i64 0]), 4, 32) by kernel_rfl)
  have hel : Try.prog.elem 31 = 34 := by simp [Program.elem, Try.underlying31]
  have hu : Try.prog.underlying 31 = some (.slice (Try.prog.elem 31)) := by rw [hel]; exact Try.underlying31
  intro W
  rw [run_slice_h W 31 (some ⟨g, 0, none⟩) n c hu .i64 (k : Int) (by omega) (by omega), hel]
  have : ¬ c = 0 := by omega
  simp [sizeOf, typeInfo, hi, hsz, sliced, Result.andThen, this]
  unfold Addr.add; split <;> simp_all
theorem cut_l (g n c k2 : Nat) (h2 : k2 ≤ n) : ∀ W : World, (Instr.slice 31 (.slice (some ⟨g, 0, none⟩) n c) (some (.int .i64 (k2 : Int))) none none).run Try.prog W = .ok (.slice (some (if c = k2 then ⟨g, 0, none⟩ else ⟨g, k2 * 4, none⟩)) (n - k2) (c - k2)) W := by
  obtain ⟨i0, hi, _, hsz, _⟩ := info_parts (show (Try.prog.info? 34).map (fun i => (i.zero, i.size, i.bytes)) = some (some (.agg #[.bool false, .int .u64 0, .int .u64 0, .int .i64 0]), 4, 32) by kernel_rfl)
  have hel : Try.prog.elem 31 = 34 := by simp [Program.elem, Try.underlying31]
  have hu : Try.prog.underlying 31 = some (.slice (Try.prog.elem 31)) := by rw [hel]; exact Try.underlying31
  intro W
  rw [run_slice_l W 31 (some ⟨g, 0, none⟩) n c hu .i64 (k2 : Int) (by omega) (by omega), hel]
  by_cases h : c = k2
  · simp [sizeOf, typeInfo, hi, hsz, sliced, Result.andThen, h]
  · simp [sizeOf, typeInfo, hi, hsz, sliced, Result.andThen, h]
    unfold Addr.add; split <;> simp_all
theorem cut_lh (g n n1 c : Nat) (h1 : n = n1 + 1) (h3 : n ≤ c) : ∀ W : World, (Instr.slice 31 (.slice (some ⟨g, 0, none⟩) n1 c) (some (.int .i64 (n1 : Int))) (some (.int .i64 (n : Int))) none).run Try.prog W = .ok (.slice (some ⟨g, n1 * 4, none⟩) 1 (c - n1)) W := by
  obtain ⟨i0, hi, _, hsz, _⟩ := info_parts (show (Try.prog.info? 34).map (fun i => (i.zero, i.size, i.bytes)) = some (some (.agg #[.bool false, .int .u64 0, .int .u64 0, .int .i64 0]), 4, 32) by kernel_rfl)
  have hel : Try.prog.elem 31 = 34 := by simp [Program.elem, Try.underlying31]
  have hu : Try.prog.underlying 31 = some (.slice (Try.prog.elem 31)) := by rw [hel]; exact Try.underlying31
  intro W
  rw [run_slice_lh W 31 (some ⟨g, 0, none⟩) n1 c hu .i64 .i64 (n1 : Int) (n : Int) (by omega) (by omega) (by omega), hel]
  have : ¬ c = n1 := by omega
  have h4 : n - n1 = 1 := by omega
  simp [sizeOf, typeInfo, hi, hsz, sliced, Result.andThen, this, h4]
  unfold Addr.add; split <;> simp_all
abbrev zcs : List Value := [.bool false, .int .u64 0, .int .u64 0, .int .i64 0]
theorem run_clear1 (W : World) (g o c : Nat) (ty : TypeId) {cur : Array Value} (h : W.heap[g]? = some (.cells cur 34 (0, 0))) (hl : o + 4 ≤ cur.size) :
    (Builtin.clear_ #[31] ty #[.slice (some ⟨g, o, none⟩) 1 c]).run Try.prog W = .ok (.tuple #[]) (W.setCells g o zcs) := by
  have hv : ∀ w, (zeroValue 34).run Try.prog w = .ok (.agg #[.bool false, .int .u64 0, .int .u64 0, .int .i64 0]) w := fun w => by kernel_rfl
  have hzc : (Builtin.zeroCells (Value.agg #[.bool false, .int .u64 0, .int .u64 0, .int .i64 0]).cells 1).toList = zcs := by kernel_rfl
  have hst := run_storeCells_cells (P := Try.prog) g o zcs 0 W (fun j hj => by rw [cell_of_row W g _ cur 34 (0, 0) h]; simp at hj ⊢; omega) (fun j hj => MStr.block_frozen h) (by intro v hv'; simp only [List.mem_cons, List.not_mem_nil, or_false] at hv'; rcases hv' with rfl | rfl | rfl | rfl <;> rfl)
  simp only [Nat.add_zero] at hst
  simp [Builtin.clear_, run_underlying Try.underlying31, hv, hzc, hst]
theorem del_row {w w2 : World} {g n c k k2 n1 : Nat} {ls : List Lo} (h : RL w (.slice (some ⟨g, 0, none⟩) n c) ls) (hn : ls.length = n) (hk : k2 = k + 1) (h2 : k2 ≤ n) (h1 : n = n1 + 1) {inner : List Value} (hin : ∃ cur : Array Value, w.heap[g]? = some (.cells cur 34 (0, 0)) ∧ cur.size = c * 4 ∧ n ≤ c ∧ c ≤ maxLen ∧ cur.toList.take (n * 4) = inner ∧ Reps (k34.M w 0 fun _ => True) 4 ls inner)
    (e : w2 = (w.drew.setCells g (k * 4) (inner.drop (k2 * 4))).setCells g (n1 * 4) zcs) : RL w2 (.slice (some ⟨g, 0, none⟩) n1 c) (ls.eraseIdx k) ∧ w2.os = w.os ∧ w2.tape = w.tape ∧ w2.output = w.output ∧ w2.heap.size = w.heap.size ∧ ∀ j, j ≠ g → w2.heap[j]? = w.heap[j]? := by
  obtain ⟨cur, hcur, hcs, hnc, hcm, hct, hreps⟩ := hin
  have hil : inner.length = n * 4 := by rw [← hct, List.length_take, Array.length_toList]; omega
  have hnl : (inner.drop (k2 * 4)).length = (n - k2) * 4 := by rw [List.length_drop, hil]; omega
  obtain ⟨cur1, hc1, hz1, ht1⟩ := setCells_row (inner.drop (k2 * 4)) (k * 4) w.drew cur hcur (by rw [hnl]; omega)
  obtain ⟨cur2, hc2, hz2, ht2⟩ := setCells_row zcs (n1 * 4) (w.drew.setCells g (k * 4) (inner.drop (k2 * 4))) cur1 hc1 (by simp only [List.length_cons, List.length_nil]; omega)
  rw [← e] at hc2
  obtain ⟨a1, a2, a3, a4⟩ := setCells_same g zcs (n1 * 4) (w.drew.setCells g (k * 4) (inner.drop (k2 * 4)))
  obtain ⟨b1, b2, b3, b4⟩ := setCells_same g (inner.drop (k2 * 4)) (k * 4) w.drew
  rw [← e] at a1 a2 a3 a4
  have hle : (ls.eraseIdx k).length = n1 := by rw [List.length_eraseIdx, if_pos (by omega)]; omega
  refine ⟨RL.of (base := 0) (ok := fun _ => True) ⟨fun _ _ => trivial, inner.take (k * 4) ++ inner.drop (k2 * 4), ?_, ?_⟩, a1.trans b1, a2.trans b2, a3.trans b3, a4.trans b4, fun j hj => ?_⟩
  · rw [hle]
    refine ⟨by rw [List.length_append, List.length_take, hnl, hil]; show _ = n1 * 4; omega, .inr ⟨g, c, cur2, rfl, Nat.zero_le _, hc2, by omega, hcm, by rw [hz2, hz1, hcs]; rfl, ?_⟩⟩
    have hkl : (cur.toList.take (k * 4)).length = k * 4 := by rw [List.length_take, Array.length_toList]; omega
    have hl1 : (cur.toList.take (k * 4) ++ inner.drop (k2 * 4)).length = n1 * 4 := by rw [List.length_append, hkl, hnl]; omega
    have hA : cur1.toList.take (n1 * 4) = cur.toList.take (k * 4) ++ inner.drop (k2 * 4) := by
      rw [ht1, List.take_append_of_le_length (by omega), List.take_of_length_le (by omega)]
    have hI : inner.take (k * 4) = cur.toList.take (k * 4) := by rw [← hct, List.take_take, Nat.min_eq_left (by omega)]
    rw [ht2, hA, List.append_assoc, hI]
    show ((_ ++ _ : List Value)).take (n1 * 4) = _
    rw [List.take_append_of_le_length (by omega), List.take_of_length_le (by omega)]
  · rw [List.eraseIdx_eq_take_drop_succ, ← hk]
    refine (Kd.reps_append (Kd.reps_take hreps (by omega)) (Kd.reps_drop hreps)).imp_ (fun y cs hq => ?_)
    obtain rfl := k34_openM hq
    exact k34_mkM _ _ _ _
  · rw [e, setCells_far _ _ _ hj, setCells_far _ _ _ hj]; rfl
set_option maxHeartbeats 2000000 in
set_option maxRecDepth 100000 in
theorem delete_calls (w : World) (g c : Nat) (ls : List Lo) (n k k2 n1 : Nat) (hrow : RL w (.slice (some ⟨g, 0, none⟩) n c) ls) (hn : ls.length = n) (hk2 : k2 = k + 1) (hk : k2 ≤ n) (hn1 : n = n1 + 1) (h8 : n ≤ 1000000) :
    Calls Try.prog 51 #[.slice (some ⟨g, 0, none⟩) n c, .int .i64 (k : Int), .int .i64 (k2 : Int)] w fun e w' => e = .returned (.slice (some ⟨g, 0, none⟩) n1 c) ∧ RL w' (.slice (some ⟨g, 0, none⟩) n1 c) (ls.eraseIdx k) ∧ w'.os = w.os ∧ w'.tape = w.tape ∧ w'.output = w.output ∧ w'.heap.size = w.heap.size ∧ ∀ j, j ≠ g → w'.heap[j]? = w.heap[j]? := by
  obtain ⟨_, inner, hown, hreps⟩ := hrow
  obtain ⟨hil, hown⟩ := hown
  rw [hn] at hil
  rcases hown with ⟨q, _⟩ | ⟨g', cap, cur, q, _, hcur, hnc, hcm, hcs, hct⟩
  · cases q
  obtain ⟨rfl, rfl⟩ : g = g' ∧ c = cap := by injection q with q1 q2 q3; injection q1 with q1; injection q1 with q1; exact ⟨q1, q3⟩
  clear q
  rw [hn] at hnc hct
  replace hcs : cur.size = c * 4 := hcs
  replace hct : cur.toList.take (n * 4) = inner := hct
  replace hil : inner.length = n * 4 := hil
  have hnl : (inner.drop (k2 * 4)).length = (n - k2) * 4 := by rw [List.length_drop, hil]; omega
  have HIN := Aside0.mk (show ∃ cur : Array Value, w.heap[g]? = some (.cells cur 34 (0, 0)) ∧ cur.size = c * 4 ∧ n ≤ c ∧ c ≤ maxLen ∧ cur.toList.take (n * 4) = inner ∧ Reps (k34.M w 0 fun _ => True) 4 ls inner from ⟨cur, hcur, hcs, hnc, hcm, hct, hreps.imp_ (fun y cs hq => by obtain rfl := k34_openM hq; exact k34_mkM _ _ _ _)⟩)
  have HROW := Aside0.mk (show RL w (.slice (some ⟨g, 0, none⟩) n c) ls from ⟨fun _ hk => hk, inner, ⟨by rw [hn]; exact hil, .inr ⟨g, c, cur, by rw [hn], Nat.zero_le _, hcur, by omega, hcm, hcs, by rw [hn]; exact hct⟩⟩, hreps⟩)
  have hone : ∀ u ∈ inner, u.oneCell' = true := Kd.reps_one hreps (by decide) (fun p cs hq => by obtain rfl := k34_openM hq; intro u hu; simp only [List.mem_cons, List.not_mem_nil, or_false] at hu; rcases hu with rfl | rfl | rfl | rfl <;> rfl)
  obtain ⟨news, hnews⟩ : ∃ news, inner.drop (k2 * 4) = news := ⟨_, rfl⟩
  obtain ⟨AD, hAD⟩ : ∃ AD, (if c = k2 then (⟨g, 0, none⟩ : Addr) else ⟨g, k2 * 4, none⟩) = AD := ⟨_, rfl⟩
  have hcl := cut_l g n c k2 hk
  rw [hAD] at hcl
  have hch := cut_h g n c k (by omega) hnc
  have hclh := cut_lh g n n1 c hn1 hnc
  obtain ⟨u3, hlhm⟩ := cut_lhm g n c k k2 hk2 hk hnc
  rw [hnews] at hnl
  have s1 := Aside0.mk hnl
  have s2 := Aside0.mk (show ∀ u ∈ news, u.oneCell' = true from fun u hu => hone u (List.mem_of_mem_drop (hnews ▸ hu)))
  have hsrc := Aside0.mk (show ∀ t u, news[t]? = some u → w.drew.cell? (AD.add t) = some u from fun t u ht => by
    have htl := (List.getElem?_eq_some_iff.1 ht).1
    have hck : ¬ c = k2 := fun e => by rw [hnl] at htl; omega
    have hlt : k2 * 4 + t < n * 4 := by rw [hnl] at htl; omega
    have ha : (⟨g, k2 * 4, none⟩ : Addr).add t = ⟨g, k2 * 4 + t, none⟩ := by unfold Addr.add; split <;> simp_all
    rw [← hnews, List.getElem?_drop, ← hct, List.getElem?_take, if_pos hlt] at ht
    rw [← hAD, if_neg hck, ha, cell_of_row w.drew g _ cur 34 (0, 0) hcur]
    simpa using ht)
  have s3 := Aside0.mk (show ∀ t, t < news.length → (w.drew.cell? ⟨g, 0 + k * 4 + t, none⟩).isSome = true ∧ w.drew.frozen? ⟨g, 0 + k * 4 + t, none⟩ = false from fun t ht => by
    refine ⟨?_, MStr.block_frozen (w := w.drew) hcur⟩
    rw [cell_of_row w.drew g _ cur 34 (0, 0) hcur]
    rw [hnl] at ht
    have : 0 + k * 4 + t < cur.size := by rw [hcs]; omega
    rw [Nat.zero_add] at this
    simp [this])
  obtain ⟨W1, hW1⟩ : ∃ W1, w.drew.setCells g (0 + k * 4) news = W1 := ⟨_, rfl⟩
  have HW1 := Aside0.mk hW1
  have hkn : k + (n - k2) = n1 := by omega
  have HKN := Aside0.mk hkn
  have hclr : ∀ ty, (Builtin.clear_ #[31] ty #[.slice (some ⟨g, n1 * 4, none⟩) 1 (c - n1)]).run Try.prog W1 = .ok (.tuple #[]) (W1.setCells g (n1 * 4) zcs) := fun ty => by
    obtain ⟨cur1, hc1, hz1, _⟩ := setCells_row news (0 + k * 4) w.drew cur hcur (by rw [hnl, hcs]; omega)
    rw [hW1] at hc1
    exact run_clear1 W1 g (n1 * 4) (c - n1) ty hc1 (by rw [hz1, hcs]; omega)
  have hne : ((k : Int) == (k2 : Int)) = false := by simpa using (by omega : ¬ (k : Int) = (k2 : Int))
  have HEQ := Aside0.mk (show ls.length = n ∧ k2 = k + 1 ∧ n = n1 + 1 ∧ k2 ≤ n ∧ n ≤ 1000000 ∧ inner.drop (k2 * 4) = news from ⟨hn, hk2, hn1, hk, h8, hnews⟩)
  have HNC := Aside0.mk hnc
  obtain ⟨i0, hi0, hz0, hz1, hz2⟩ := info_parts (show (Try.prog.info? 34).map (fun i => (i.zero, i.size, i.bytes)) = some (some (.agg #[.bool false, .int .u64 0, .int .u64 0, .int .i64 0]), 4, 32) by kernel_rfl)
  have s4 := Aside0.mk (show k + (n - k2) ≤ c by omega)
  clear hil hcur hnc hcm hcs hct hreps hone hAD hW1 hnl hkn hn hk2 hn1 hk h8 hnews
  go_enter Try.func51, Try.ntmps51
  go_wp2_with fail
  go_region_law (refine step_append_room rfl (.tmp 22) (.tmp 25) 31 rfl 34 i0 4 Try.underlying31 hi0 hz1 g 0 k c (by simp [Act.eval, Act.put]) AD (n - k2) (c - k2) news (by simp [Act.eval, Act.put]) s1.out hsrc.out s2.out s4.out s3.out ?_; rw [HW1.out])
  simp only [HKN.out]
  go_wp2
  go_ret
  refine ⟨rfl, ?_⟩
  obtain ⟨e1, e2, e3, e4, e5, e6⟩ := HEQ.out
  exact del_row HROW.out e1 e2 e4 e3 HIN.out (by rw [e6, ← HW1.out, Nat.zero_add])
section
variable {w : World} {S : Nat → Prop} {sb mb : Nat} {v : Value} {xs : List PS} {st : St}
theorem drop_fin {w0 w3 w4 : World} (hb : Below w0.heap.size w0 w3) (h : Mem w3 S sb mb v xs st) {pb n c i : Nat} (hv : v = .slice (some ⟨pb, 0, none⟩) n c) {p : Pt} {x : PS} (hp : st[i]? = some p) (hx : xs[i]? = some x) {gg c' n1 : Nat} (hel : sv x.l = .slice (some ⟨gg, 0, none⟩) p.ls.length c')
    {ls' : List Lo} (f : Pt → Pt) (hf : f p = { p with ls := ls' }) (hr : RL w4 (.slice (some ⟨gg, 0, none⟩) n1 c') ls') (ho : w4.os = w3.os ∧ w4.tape = w3.tape ∧ w4.output = w3.output ∧ w4.heap.size = w3.heap.size ∧ ∀ j, j ≠ gg → w4.heap[j]? = w3.heap[j]?) :
    Stepped w0 (w4.setCell ⟨pb, i * 5 + 4, none⟩ (.slice (some ⟨gg, 0, none⟩) n1 c')) S sb mb (st.modify i f) := by
  obtain ⟨o1, o2, o3, o4, o5⟩ := ho
  have hvo : v.ownBlock = some pb := by rw [hv]; rfl
  obtain ⟨cp, hcp⟩ := h.row.typed pb hvo
  have hl := (h.like i p x hp hx).2
  rw [hel] at hl
  have hgp : pb ≠ gg := fun e => by
    obtain ⟨cs, hc⟩ := hl.typed gg rfl
    rw [← e, hcp] at hc; injection hc with hc; injection hc with _ hc; exact absurd hc (by decide)
  have hSg : S gg := h.its.2.2.2 x (List.mem_of_getElem? hx) gg (by rw [hel]; rfl)
  have hfar : ∀ k, k ≠ pb → (w4.setCell ⟨pb, i * 5 + 4, none⟩ (.slice (some ⟨gg, 0, none⟩) n1 c')).heap[k]? = w4.heap[k]? := fun k hk => Below.heap_setCell w4 _ _ k hk
  have hss : (w4.setCell ⟨pb, i * 5 + 4, none⟩ (.slice (some ⟨gg, 0, none⟩) n1 c')).heap.size = w4.heap.size := by simp [World.setCell]
  have hm := mem_lset (w' := w4.setCell ⟨pb, i * 5 + 4, none⟩ (.slice (some ⟨gg, 0, none⟩) n1 c')) h hv hp hx ⟨some ⟨gg, 0, none⟩, n1, c'⟩ ls' ?_ ?_ ?_ ?_ ?_
  · rw [modify_of hp f (fun q => { q with ls := ls' }) hf]
    refine ⟨_, _, _, hm, ?_, ?_⟩
    · intro k hk
      rcases hk with q | q
      · exact .inl q
      · obtain rfl : gg = k := Option.some.inj q
        exact .inl hSg
    · refine ⟨o1.trans hb.os, o2.trans hb.tape, o3.trans hb.output, by have := hb.size; omega, fun k hk hn => ?_⟩
      exact ((hfar k (fun e => hn (e ▸ h.its.2.2.1 pb hvo))).trans (o5 k (fun e => hn (e ▸ hSg)))).trans (hb.block k hk)
  · have h4 := (o5 pb hgp).trans hcp
    rw [MReader.setCell_heap h4, MReader.setCell_heap hcp]
    rfl
  · exact hr.keep (fun k hk => hfar k (by obtain rfl : gg = k := Option.some.inj hk; exact fun e => hgp e.symm))
  · intro k hk
    obtain rfl : gg = k := Option.some.inj hk
    exact .inl (by rw [hel]; rfl)
  · intro k h1 h2 h3
    refine (hfar k h2).trans (o5 k (fun e => h3 ?_))
    rw [hel, e]; rfl
  · omega
set_option maxHeartbeats 1000000 in
set_option maxRecDepth 100000 in
theorem drop_none (h : Mem w S sb mb v xs st) (h8 : st.length ≤ 8) (n : Int) (a : Ad) (hn : at? st n = none) :
    Calls Try.prog 31 #[.pointer (some ⟨sb, 0, none⟩), .int .i64 n, .agg #[.bool a.f0, .int .u64 a.f1, .int .u64 a.f2]] w fun e w' => e = .returned (.int .i64 132) ∧ Below w.heap.size w w' := by
  have HB := Aside0.mk (Below.refl w.heap.size w)
  go_enter Try.func31, Try.ntmps31
  go_wp2_with (first | ((with_reducible refine gate_dst (N := 5) rfl ?_); refine sh_E 5 25 #[.bool a.f0, .int .u64 a.f1, .int .u64 a.f2] ?_; intro g hg w1 hbox hb; replace HB := sh_S HB hb; have HM := Aside0.mk (h.below hb); clear hbox hb hg) | fail)
  refine Calls.mono (of_none HM.out h8 n hn) ?_
  rintro e w' ⟨rfl, rfl⟩
  go_wp2
  go_ret
  exact ⟨rfl, HB.out⟩
set_option maxHeartbeats 1000000 in
set_option maxRecDepth 100000 in
theorem drop_not (h : Mem w S sb mb v xs st) (h8 : st.length ≤ 8) (hls : ∀ p ∈ st, p.ls.length ≤ 8) (n : Int) (a : Ad) {i : Nat} (hn : at? st n = some i) {p : Pt} (hp : st[i]? = some p) (hno : place p.ls a = none) :
    Calls Try.prog 31 #[.pointer (some ⟨sb, 0, none⟩), .int .i64 n, .agg #[.bool a.f0, .int .u64 a.f1, .int .u64 a.f2]] w fun e w' => e = .returned (.int .i64 132) ∧ Below w.heap.size w w' := by
  have HB := Aside0.mk (Below.refl w.heap.size w)
  obtain ⟨p', x, pb, c, hp', hx, hv, hS⟩ := at_get h hn
  obtain rfl : p = p' := Option.some.inj (hp.symm.trans hp')
  have hp8 := hls p (List.mem_of_getElem? hp)
  have hpl := fun W (hW : Mem W S sb mb v xs st) => place_calls W pb i (sv x.l) p.ls (hW.like i p x hp hx).2 hp8 ((hv ▸ hW.row).cell hx (j := 4) rfl).1 a
  have hidx : idx p.ls a = -1 := by unfold idx; rw [hno]
  rw [hidx] at hpl
  go_enter Try.func31, Try.ntmps31
  go_wp2_with (first | ((with_reducible refine gate_dst (N := 5) rfl ?_); refine sh_E 5 25 #[.bool a.f0, .int .u64 a.f1, .int .u64 a.f2] ?_; intro g hg w1 hbox hb; replace HB := sh_S HB hb; obtain ⟨c0, c1, c2⟩ := MBlk.c3 hbox; have HM := Aside0.mk (h.below hb); clear hbox hb hg) | fail)
  refine Calls.mono (of_some HM.out h8 n hn hv) ?_
  rintro e w' ⟨rfl, rfl⟩
  go_wp2_with fail
  refine Calls.mono (hpl _ HM.out) ?_
  rintro e w2 ⟨rfl, hb⟩
  have HB2 := Aside0.mk (sh_S HB hb).out
  clear hb
  go_wp2
  go_ret
  exact ⟨rfl, HB2.out⟩
set_option maxHeartbeats 1000000 in
set_option maxRecDepth 100000 in
theorem drop_done (h : Mem w S sb mb v xs st) (h8 : st.length ≤ 8) (hls : ∀ p ∈ st, p.ls.length ≤ 8) (n : Int) (a : Ad) {i : Nat} (hn : at? st n = some i) {p : Pt} (hp : st[i]? = some p) {k : Nat} (hk : place p.ls a = some k) :
    Calls Try.prog 31 #[.pointer (some ⟨sb, 0, none⟩), .int .i64 n, .agg #[.bool a.f0, .int .u64 a.f1, .int .u64 a.f2]] w fun e w' => e = .returned (.int .i64 0) ∧ Stepped w w' S sb mb (st.modify i fun p => { p with ls := p.ls.eraseIdx k }) := by
  have HB := Aside0.mk (Below.refl w.heap.size w)
  obtain ⟨p', x, pb, c, hp', hx, hv, hS⟩ := at_get h hn
  obtain rfl : p = p' := Option.some.inj (hp.symm.trans hp')
  have hp8 := hls p (List.mem_of_getElem? hp)
  have hpl := fun W (hW : Mem W S sb mb v xs st) => place_calls W pb i (sv x.l) p.ls (hW.like i p x hp hx).2 hp8 ((hv ▸ hW.row).cell hx (j := 4) rfl).1 a
  have hkl := place_lt hk
  have hidx : idx p.ls a = (k : Int) := by unfold idx; rw [hk]
  rw [hidx] at hpl
  obtain ⟨gg, c', hel⟩ := (h.like i p x hp hx).2.shape (by omega)
  obtain ⟨nn, hnn⟩ : ∃ nn, p.ls.length = nn := ⟨_, rfl⟩
  rw [hnn] at hel
  obtain ⟨n1, hn1⟩ : ∃ n1, nn = n1 + 1 := ⟨nn - 1, by omega⟩
  obtain ⟨k2, hk2⟩ : ∃ k2, k2 = k + 1 := ⟨_, rfl⟩
  have hdel := fun W (hW : Mem W S sb mb v xs st) => delete_calls W gg c' p.ls nn k k2 n1 (hel ▸ (hW.like i p x hp hx).2) hnn hk2 (by omega) hn1 (by omega)
  have hw : wrap64 ((k : Int) + 1) = (k2 : Int) := by unfold wrap64; omega
  have h0 : decide ((k : Int) < 0) = false := decide_eq_false (by omega)
  have hcl := fun W (hW : Mem W S sb mb v xs st) => (hv ▸ hW.row).cell hx (j := 4) rfl
  have HPBG := Aside0.mk (show pb ≠ gg from fun e => by
    obtain ⟨cp, hcp⟩ := h.row.typed pb (by rw [hv]; rfl)
    obtain ⟨cs, hc⟩ := (h.like i p x hp hx).2.typed gg (by rw [hel]; rfl)
    rw [← e, hcp] at hc; injection hc with hc; injection hc with _ hc; exact absurd hc (by decide))
  have HEL := Aside0.mk (show sv x.l = .slice (some ⟨gg, 0, none⟩) p.ls.length c' by rw [hel, hnn])
  rw [hel] at hcl
  clear hp8 hkl hidx hk hel hnn hn1 hk2
  go_enter Try.func31, Try.ntmps31
  go_wp2_with (first | ((with_reducible refine gate_dst (N := 5) rfl ?_); refine sh_E 5 25 #[.bool a.f0, .int .u64 a.f1, .int .u64 a.f2] ?_; intro g hg w1 hbox hb; replace HB := sh_S HB hb; obtain ⟨c0, c1, c2⟩ := MBlk.c3 hbox; have HM := Aside0.mk (h.below hb); clear hbox hb hg) | fail)
  refine Calls.mono (of_some HM.out h8 n hn hv) ?_
  rintro e w' ⟨rfl, rfl⟩
  go_wp2_with fail
  refine Calls.mono (hpl _ HM.out) ?_
  rintro e w2 ⟨rfl, hb⟩
  have HB2 := Aside0.mk (sh_S HB hb).out
  have HM2 := Aside0.mk (HM.out.below hb)
  replace c0 := pw_cell_below hb c0
  replace c1 := pw_cell_below hb c1
  replace c2 := pw_cell_below hb c2
  clear hb
  go_wp2_with fail
  refine Calls.mono (hpl _ HM2.out) ?_
  rintro e w3 ⟨rfl, hb⟩
  have HB3 := Aside0.mk (sh_S HB2 hb).out
  have HM3 := Aside0.mk (HM2.out.below hb)
  obtain ⟨p4, f4⟩ := hcl _ HM3.out
  clear hb HB HB2 HM HM2 c0 c1 c2
  go_wp2_with fail
  refine Calls.mono (hdel _ HM3.out) ?_
  rintro e w4 ⟨rfl, hr, ho⟩
  have HR := Aside0.mk hr
  have HO := Aside0.mk ho
  have hpb := ho.2.2.2.2 pb HPBG.out
  have p44 := (World.cell?_of_block (a := ⟨pb, i * 5 + 4, none⟩) hpb).trans p4
  have f44 := (World.frozen?_of_block (a := ⟨pb, i * 5 + 4, none⟩) hpb).trans f4
  clear hr ho hpb p4 f4
  go_wp2
  go_ret
  exact ⟨rfl, drop_fin HB3.out HM3.out hv hp hx HEL.out _ rfl HR.out HO.out⟩
theorem drop_calls (h : Mem w S sb mb v xs st) (h8 : st.length ≤ 8) (hls : ∀ p ∈ st, p.ls.length ≤ 8) (n : Int) (a : Ad) :
    Calls Try.prog 31 #[.pointer (some ⟨sb, 0, none⟩), .int .i64 n, .agg #[.bool a.f0, .int .u64 a.f1, .int .u64 a.f2]] w fun e w' => e = .returned (.int .i64 (drop st n a).2) ∧ Stepped w w' S sb mb (drop st n a).1 := by
  cases hn : at? st n with
  | none =>
    have e : drop st n a = (st, 132) := by unfold drop; rw [hn]
    rw [e]
    exact Calls.mono (drop_none h h8 n a hn) (fun _ _ q => ⟨q.1, Stepped.same h q.2⟩)
  | some i =>
    obtain ⟨p, x, pb, c, hp, hx, hv, hS⟩ := at_get h hn
    have hl : (st[i]?.map (·.ls)).getD [] = p.ls := by rw [hp]; rfl
    cases hk : place p.ls a with
    | none =>
      have e : drop st n a = (st, 132) := by unfold drop; simp only [hn, hl, hk]
      rw [e]
      exact Calls.mono (drop_not h h8 hls n a hn hp hk) (fun _ _ q => ⟨q.1, Stepped.same h q.2⟩)
    | some k =>
      have e : drop st n a = (st.modify i fun p => { p with ls := p.ls.eraseIdx k }, 0) := by unfold drop; simp only [hn, hl, hk]
      rw [e]
      exact drop_done h h8 hls n a hn hp hk
end
end Go.Proofs.Ytefbcigccfkkgaa.WIf
namespace Go.Proofs.Ytefbcigccfkkgaa.WIf
open Go.RowKit Go.Maps Go.WideMaps Go.Proofs.Ytefbcigccfkkgaa.PBase Go.Proofs.YtefbcigccfkkgaaW.PrintWords Go.Proofs.YtefbcigccfkkgaaW.PrintLast Go.Proofs.YtefbcigccfkkgaaW.PrintMore Go.Proofs.Ytefbcigccfkkgaa.If
attribute [local go_sem] max2_int min2_int max_two min_two
abbrev lcA (l : Lo) : Array Value := #[.bool l.f0.f0, .int .u64 l.f0.f1, .int .u64 l.f0.f2, .int .i64 l.f1]
theorem far4 {w : World} {g k : Nat} {b0 b1 b2 b3 : Value} (h : k ≠ g) : ((((w.setCell ⟨g, 0, none⟩ b0).setCell ⟨g, 1, none⟩ b1).setCell ⟨g, 2, none⟩ b2).setCell ⟨g, 3, none⟩ b3).heap[k]? = w.heap[k]? := by
  rw [Below.heap_setCell _ _ _ k h, Below.heap_setCell _ _ _ k h, Below.heap_setCell _ _ _ k h, Below.heap_setCell _ _ _ k h]
theorem below4 {w0 w : World} {g : Nat} {b0 b1 b2 b3 : Value} (h : Below w0.heap.size w0 w) (hg : w0.heap.size ≤ g) : Below w0.heap.size w0 ((((w.setCell ⟨g, 0, none⟩ b0).setCell ⟨g, 1, none⟩ b1).setCell ⟨g, 2, none⟩ b2).setCell ⟨g, 3, none⟩ b3) :=
  below_set (below_set (below_set (below_set h hg) hg) hg) hg
theorem size4 {w : World} {g : Nat} {b0 b1 b2 b3 : Value} : ((((w.setCell ⟨g, 0, none⟩ b0).setCell ⟨g, 1, none⟩ b1).setCell ⟨g, 2, none⟩ b2).setCell ⟨g, 3, none⟩ b3).heap.size = w.heap.size := by simp [World.setCell]
structure Bs (w0 w : World) (g3 g4 g6 : Nat) (a : Ad) (o : Lo) : Prop where mk ::
  (b3 : w.heap[g3]? = some (.cells #[.bool a.f0, .int .u64 a.f1, .int .u64 a.f2] 25 (0, 0)))
  (b4 : w.heap[g4]? = some (.cells (lcA zeroL) 34 (0, 0)))
  (b6 : w.heap[g6]? = some (.cells (lcA o) 34 (0, 0)))
  (ge : w0.heap.size ≤ g3 ∧ w0.heap.size ≤ g4 ∧ w0.heap.size ≤ g6 ∧ g4 ≠ g6 ∧ g3 ≠ g6)
  (bel : Below w0.heap.size w0 w)
theorem Bs.below {w0 w w1 : World} {g3 g4 g6 : Nat} {a : Ad} {o : Lo} (h : Bs w0 w g3 g4 g6 a o) (hb : Below w.heap.size w w1) : Bs w0 w1 g3 g4 g6 a o :=
  ⟨blk_below h.b3 hb, blk_below h.b4 hb, blk_below h.b6 hb, h.ge, below_step h.bel hb⟩
theorem Bs.put {w0 w : World} {g3 g4 g6 : Nat} {a : Ad} {o : Lo} (h : Bs w0 w g3 g4 g6 a o) (l : Lo) : Bs w0 ((((w.setCell ⟨g6, 0, none⟩ (.bool l.f0.f0)).setCell ⟨g6, 1, none⟩ (.int .u64 l.f0.f1)).setCell ⟨g6, 2, none⟩ (.int .u64 l.f0.f2)).setCell ⟨g6, 3, none⟩ (.int .i64 l.f1)) g3 g4 g6 a l :=
  ⟨(far4 h.ge.2.2.2.2).trans h.b3, (far4 h.ge.2.2.2.1).trans h.b4, put4 h.b6, h.ge, below4 h.bel h.ge.2.2.1⟩
theorem Bs.new {w0 w W : World} {g3 g4 g6 g t : Nat} {a : Ad} {o : Lo} {b0 b1 b2 b3 c0 c1 c2 c3 : Value} (h : Bs w0 w g3 g4 g6 a o) (hg : g = w.heap.size) (hb : Below w.heap.size w W) (hbox : W.heap[g]? = some (.cells #[c0, c1, c2, c3] t (0, 0))) :
    Bs w0 ((((W.setCell ⟨g, 0, none⟩ b0).setCell ⟨g, 1, none⟩ b1).setCell ⟨g, 2, none⟩ b2).setCell ⟨g, 3, none⟩ b3) g3 g4 g6 a o ∧ ((((W.setCell ⟨g, 0, none⟩ b0).setCell ⟨g, 1, none⟩ b1).setCell ⟨g, 2, none⟩ b2).setCell ⟨g, 3, none⟩ b3).heap[g]? = some (.cells #[b0, b1, b2, b3] t (0, 0)) ∧
      Below w.heap.size w ((((W.setCell ⟨g, 0, none⟩ b0).setCell ⟨g, 1, none⟩ b1).setCell ⟨g, 2, none⟩ b2).setCell ⟨g, 3, none⟩ b3) := by
  have hbb : Below w.heap.size w ((((W.setCell ⟨g, 0, none⟩ b0).setCell ⟨g, 1, none⟩ b1).setCell ⟨g, 2, none⟩ b2).setCell ⟨g, 3, none⟩ b3) := below4 hb (by omega)
  exact ⟨h.below hbb, put4 hbox, hbb⟩
theorem take_fold {ls : List Lo} {a : Ad} {i : Nat} {l : Lo} (h : ls[i]? = some l) : (ls.take (i + 1)).foldl (bestF a) zeroL = bestF a ((ls.take i).foldl (bestF a) zeroL) l := by
  have hi := (List.getElem?_eq_some_iff.1 h).1
  rw [List.take_add_one, h, Option.toList_some, List.foldl_append]; rfl
set_option maxHeartbeats 4000000 in
set_option maxRecDepth 100000 in
theorem best_calls (w : World) (pb i : Nat) (v : Value) (ls : List Lo) (hrow : RL w v ls) (h8 : ls.length ≤ 8) (hc : w.cell? ⟨pb, i * 5 + 4, none⟩ = some v) (a : Ad) :
    Calls Try.prog 28 #[.pointer (some ⟨pb, i * 5, none⟩), .agg #[.bool a.f0, .int .u64 a.f1, .int .u64 a.f2]] w fun e w' => e = .returned (.tuple #[.agg (lcA (best ls a)), .bool (decide ((best ls a).f1 > 0))]) ∧ Below w.heap.size w w' := by
  obtain ⟨A, c, e, hC⟩ := RL.reads hrow
  subst e
  have hu25 := Try.underlying25
  have hu34 := Try.underlying34
  have hu83 := Try.underlying83
  have HB := Aside0.mk (Below.refl w.heap.size w)
  go_enter Try.func28, Try.ntmps28
  go_wp2_with (first | ((with_reducible refine gate_dst (N := 3) rfl ?_); refine sh_E 3 25 #[.bool a.f0, .int .u64 a.f1, .int .u64 a.f2] ?_; intro g3 hg w1 hbox hb; have GE3 := sh_G HB hg; replace HB := sh_S HB hb; have BK3 := Aside0.mk hbox; replace hc := pw_cell_below hb hc; clear hbox hb hg) | ((with_reducible refine gate_dst (N := 4) rfl ?_); refine sh_E 4 34 (lcA zeroL) ?_; intro g4 hg w2 hbox hb; have GE4 := sh_G HB hg; replace HB := sh_S HB hb; replace BK3 := sh_L BK3 hb; have BK4 := Aside0.mk hbox; replace hc := pw_cell_below hb hc; clear hbox hb hg) | ((with_reducible refine gate_dst (N := 6) rfl ?_); refine sh_E 6 34 (lcA zeroL) ?_; intro g6 hg w3 hbox hb; have GE6 := sh_G HB hg; have N46 := sh_N BK4 hg; have N36 := sh_N BK3 hg; replace HB := sh_S HB hb; replace BK3 := sh_L BK3 hb; replace BK4 := sh_L BK4 hb; have BK6 := Aside0.mk hbox; replace hc := pw_cell_below hb hc; clear hbox hb hg) | fail)
  have HBS := Aside0.mk (show Bs w w3 g3 g4 g6 a zeroL from ⟨BK3.out, BK4.out, BK6.out, ⟨GE3.out, GE4.out, GE6.out, N46.out, N36.out⟩, HB.out⟩)
  clear BK3 BK4 BK6 N46 N36 GE3 GE4 GE6 HB hc
  have HC := Aside0.mk hC
  clear hC
  go_loopg [16] ls.length (fun kq v16 w' => ∃ (j : Nat) (o : Lo), v16 = .int .i64 (j : Int) ∧ Aside0 (j + kq = ls.length ∧ o = (ls.take j).foldl (bestF a) zeroL) ∧ Aside0 (Bs w w' g3 g4 g6 a o))
  case atStart => exact ⟨0, zeroL, rfl, ⟨by omega, rfl⟩, HBS⟩
  case round =>
    clear HBS
    obtain ⟨j, o, rfl, HJ, HBS⟩ := hrel
    by_cases hj : j < ls.length
    · obtain ⟨ad, e, x0, x1, x2, x3⟩ := at_T34 (Kd.C_below HC.out HBS.out.bel) (j : Int) (by omega) (by omega)
      subst e
      have hrd : rd_T34 ls (j : Int) = ls[j] := by
        unfold rd_T34
        rw [Int.toNat_natCast, List.getD_eq_getElem?_getD, List.getElem?_eq_getElem hj, Option.getD_some]
      rw [hrd] at x0 x1 x2 x3
      obtain ⟨l, hl⟩ : ∃ l, ls[j] = l := ⟨_, rfl⟩
      rw [hl] at x0 x1 x2 x3
      have HGET := Aside0.mk (show ls[j]? = some l by rw [List.getElem?_eq_getElem hj, hl])
      obtain ⟨x, hx⟩ : ∃ x : Int, (j : Int) = x := ⟨_, rfl⟩
      rw [hx] at x0 x1 x2 x3 ⊢
      have HX := Aside0.mk hx
      have b1 : decide (x < (ls.length : Int)) = true := decide_eq_true (by omega)
      have p1 : (0 ≤ x) = True := eq_true (by omega)
      have q1 : (x < (ls.length : Int)) = True := eq_true (by omega)
      have hn : wrap64 (x + 1) = ((j + 1 : Nat) : Int) := by unfold wrap64; omega
      have HN := Aside0.mk hn
      obtain ⟨gk, rfl⟩ : ∃ q, gk = q + 1 := ⟨gk - 1, by have := HJ.out.1; omega⟩
      clear hl hx hj hrd hn
      go_upto_region 5 with (first | ((with_reducible refine gate_dst (N := 8) rfl ?_); refine sh_E 8 34 (lcA zeroL) ?_; intro g8 hg W1 hbox hb; have HG8 := Aside0.mk hg; have BK8 := Aside0.mk hbox; have HBB := Aside0.mk hb; obtain ⟨c0, c1, c2, c3⟩ := MBlk.c4 hbox; obtain ⟨f0, f1, f2, f3⟩ := MBlk.f4 hbox; clear hbox hb hg x0 x1 x2 x3) | fail)
      have hnew := HBS.out.new (b0 := .bool l.f0.f0) (b1 := .int .u64 l.f0.f1) (b2 := .int .u64 l.f0.f2) (b3 := .int .i64 l.f1) HG8.out HBB.out BK8.out
      clear HBS HG8 HBB BK8 c0 c1 c2 c3 f0 f1 f2 f3
      generalize ((((W1.setCell ⟨g8, 0, none⟩ (.bool l.f0.f0)).setCell ⟨g8, 1, none⟩ (.int .u64 l.f0.f1)).setCell ⟨g8, 2, none⟩ (.int .u64 l.f0.f2)).setCell ⟨g8, 3, none⟩ (.int .i64 l.f1)) = W2 at hnew ⊢
      clear W1
      obtain ⟨hs8, hk8, _⟩ := hnew
      have HBS := Aside0.mk hs8
      have BK8 := Aside0.mk hk8
      obtain ⟨c0, c1, c2, c3⟩ := MBlk.c4 hk8
      clear hs8 hk8
      obtain ⟨⟨r1, r2, r3, r4, r5⟩, hq⟩ := of_some' l.f0.f0 l.f0.f1 l.f0.f2 l.f1
      have HQ := Aside0.mk hq
      clear hq
      go_wp2_with fail
      refine Calls.mono (prefix_Of.calls l.f0.f0 l.f0.f1 l.f0.f2 l.f1 r1 r2 r3 r4 r5 _ HQ.out) ?_
      rintro e W3 ⟨rfl, hb⟩
      replace HBS := Aside0.mk (HBS.out.below hb)
      replace BK8 := Aside0.mk (blk_below BK8.out hb)
      clear hb c0 c1 c2 c3
      go_upto_region 6 with (first | ((with_reducible refine gate_dst (N := 9) rfl ?_); refine sh_E 9 83 #[.bool false, .int .u64 0, .int .u64 0, .int .i64 0] ?_; intro g9 hg W4 hbox hb; have HG9 := Aside0.mk hg; have BK9 := Aside0.mk hbox; have HBB := Aside0.mk hb; obtain ⟨c0, c1, c2, c3⟩ := MBlk.c4 hbox; obtain ⟨f0, f1, f2, f3⟩ := MBlk.f4 hbox; clear hbox hb hg) | fail)
      have hnew := HBS.out.new (b0 := .bool r1) (b1 := .int .u64 r2) (b2 := .int .u64 r3) (b3 := .int .i64 r4) HG9.out HBB.out BK9.out
      clear HBS HG9 HBB BK9 c0 c1 c2 c3 f0 f1 f2 f3
      generalize ((((W4.setCell ⟨g9, 0, none⟩ (.bool r1)).setCell ⟨g9, 1, none⟩ (.int .u64 r2)).setCell ⟨g9, 2, none⟩ (.int .u64 r3)).setCell ⟨g9, 3, none⟩ (.int .i64 r4)) = W5 at hnew ⊢
      clear W4
      obtain ⟨hs9, hk9, hb9⟩ := hnew
      have HBS := Aside0.mk hs9
      have BK9 := Aside0.mk hk9
      replace BK8 := Aside0.mk (blk_below BK8.out hb9)
      obtain ⟨c0, c1, c2, c3⟩ := MBlk.c4 hk9
      obtain ⟨d0, d1, d2, d3⟩ := MBlk.c4 BK8.out
      obtain ⟨o0, o1, o2, o3⟩ := MBlk.c4 hs9.b6
      obtain ⟨e0, e1, e2⟩ := MBlk.c3 hs9.b3
      clear hs9 hk9 hb9
      by_cases hlt : o.f1 < l.f1
      · obtain ⟨r, hr⟩ := holds_some r1 r2 r3 r4 a.f0 a.f1 a.f2
        have HR := Aside0.mk hr
        have HHB := Aside0.mk (show holdsB l a = r by unfold holdsB; rw [HQ.out]; simp only [Option.bind_some]; rw [hr]; rfl)
        clear hr
        go_wp2_with fail
        refine Calls.mono (prefix_Holds.calls r1 r2 r3 r4 a.f0 a.f1 a.f2 r _ HR.out) ?_
        rintro e W6 ⟨rfl, hb⟩
        replace HBS := Aside0.mk (HBS.out.below hb)
        replace BK8 := Aside0.mk (blk_below BK8.out hb)
        clear hb c0 c1 c2 c3 d0 d1 d2 d3 o0 o1 o2 o3 e0 e1 e2
        cases r with
        | true =>
          have hbs := HBS.out.put l
          have HB2 := Aside0.mk hbs
          obtain ⟨d0, d1, d2, d3⟩ := MBlk.c4 BK8.out
          obtain ⟨o0, o1, o2, o3⟩ := MBlk.c4 HBS.out.b6
          obtain ⟨f0, f1, f2, f3⟩ := MBlk.f4 HBS.out.b6
          clear hbs
          go_wp2
          go_roundg gk
          case measure => omega
          case rel => exact ⟨j + 1, l, by first | rw [HN.out] | exact congrArg _ (by have := HX.out; omega), ⟨by have := HJ.out.1; omega, by rw [take_fold HGET.out, ← HJ.out.2]; unfold bestF; rw [if_pos ⟨hlt, HHB.out⟩]⟩, HB2⟩
        | false =>
          go_wp2
          go_roundg gk
          case measure => omega
          case rel => exact ⟨j + 1, o, by first | rw [HN.out] | exact congrArg _ (by have := HX.out; omega), ⟨by have := HJ.out.1; omega, by rw [take_fold HGET.out, ← HJ.out.2]; unfold bestF; rw [if_neg (fun z => by rw [HHB.out] at z; exact absurd z.2 (by decide))]⟩, HBS⟩
      · go_wp2
        go_roundg gk
        case measure => omega
        case rel => exact ⟨j + 1, o, by first | rw [HN.out] | exact congrArg _ (by have := HX.out; omega), ⟨by have := HJ.out.1; omega, by rw [take_fold HGET.out, ← HJ.out.2]; unfold bestF; rw [if_neg (fun z => by have := z.1; omega)]⟩, HBS⟩
    · have hbest : best ls a = o := by
        rw [HJ.out.2, List.take_of_length_le (by omega)]; rfl
      have HBE := Aside0.mk hbest
      obtain ⟨o0, o1, o2, o3⟩ := MBlk.c4 HBS.out.b6
      obtain ⟨z0, z1, z2, z3⟩ := MBlk.c4 HBS.out.b4
      obtain ⟨f0, f1, f2, f3⟩ := MBlk.f4 HBS.out.b4
      obtain ⟨x, hx⟩ : ∃ x : Int, (j : Int) = x := ⟨_, rfl⟩
      have b1 : decide (x < (ls.length : Int)) = false := decide_eq_false (by omega)
      rw [hx]
      clear hx hj hbest
      have n46 : g4 ≠ g6 := HBS.out.ge.2.2.2.1
      have n64 : g6 ≠ g4 := fun e => HBS.out.ge.2.2.2.1 e.symm
      go_wp2_with fail
      go_region
      go_wp2
      refine bodyPost_ret (results_ct rfl _ _ g4 34 (lcA o) (0, 0) _ rfl (put4 HBS.out.b4) hu34 rfl (by kernel_rfl)) rfl ?_
      rw [HBE.out]
      exact ⟨rfl, by first | exact below4 HBS.out.bel HBS.out.ge.2.1 | exact pw_below_drewN (below4 HBS.out.bel HBS.out.ge.2.1) _ | exact below_drew1 (below4 HBS.out.bel HBS.out.ge.2.1) | exact below4 (pw_below_drewN HBS.out.bel _) HBS.out.ge.2.1 | exact below4 (below_drew1 HBS.out.bel) HBS.out.ge.2.1⟩
def nearAt (a : Ad) (st : St) (i : Nat) : Int × Int := (List.range i).foldl (nearF a st) (0, 0)
theorem nearAt_succ {a : Ad} {st : St} {i : Nat} {p : Pt} (h : st[i]? = some p) : nearAt a st (i + 1) = if (best p.ls a).f1 > 0 ∧ p.up = true ∧ (best p.ls a).f1 > (nearAt a st i).2 then ((i : Int) + 1, (best p.ls a).f1) else nearAt a st i := by
  unfold nearAt
  rw [List.range_succ, List.foldl_append, List.foldl_cons, List.foldl_nil]
  show nearF a st _ i = _
  unfold nearF
  rw [h]
section
variable {w : World} {S : Nat → Prop} {sb mb : Nat} {v : Value} {xs : List PS} {st : St}
set_option maxHeartbeats 4000000 in
set_option maxRecDepth 100000 in
theorem near_calls (h : Mem w S sb mb v xs st) (h8 : st.length ≤ 8) (hls : ∀ p ∈ st, p.ls.length ≤ 8) (a : Ad) :
    Calls Try.prog 20 #[.pointer (some ⟨sb, 0, none⟩), .agg #[.bool a.f0, .int .u64 a.f1, .int .u64 a.f2]] w fun e w' => e = .returned (.tuple #[.int .i64 (near st a), .bool (decide (near st a > 0))]) ∧ Below w.heap.size w w' := by
  have hu25 := Try.underlying25
  have hu34 := Try.underlying34
  have HB := Aside0.mk (Below.refl w.heap.size w)
  obtain ⟨A, c, ev⟩ := h.row.slice
  rw [h.len] at ev
  subst ev
  have HLEN := Aside0.mk h.len
  obtain ⟨s0, s1⟩ := MBlk.c2 h.blk
  go_enter Try.func20, Try.ntmps20
  go_wp2_with (first | ((with_reducible refine gate_dst (N := 3) rfl ?_); refine sh_E 3 25 #[.bool a.f0, .int .u64 a.f1, .int .u64 a.f2] ?_; intro g hg w1 hbox hb; replace HB := sh_S HB hb; have BK := Aside0.mk hbox; have HM := Aside0.mk (h.below hb); replace s0 := pw_cell_below hb s0; replace s1 := pw_cell_below hb s1; clear hbox hb hg) | fail)
  clear h
  go_loopg [6, 7, 16] st.length (fun kq v6 v7 v16 w' => ∃ (j : Nat) (o : Int × Int), v6 = .int .i64 o.1 ∧ v7 = .int .i64 o.2 ∧ v16 = .int .i64 (j : Int) ∧ Aside0 (j + kq = st.length ∧ o = nearAt a st j) ∧ Aside0 (Below w1.heap.size w1 w'))
  case atStart => exact ⟨0, (0, 0), rfl, rfl, rfl, ⟨by omega, rfl⟩, ⟨Below.refl _ _⟩⟩
  case round =>
    obtain ⟨j, ⟨o1, o2⟩, rfl, rfl, rfl, HJ, HC⟩ := hrel
    by_cases hj : j < st.length
    · have HM2 := Aside0.mk (HM.out.below HC.out)
      obtain ⟨pb, c', e⟩ := HM.out.row.shape (by rw [HM.out.len]; omega)
      injection e with e1 e2 e3
      subst e1
      subst e3
      clear e2
      obtain ⟨p, hp⟩ : ∃ p, st[j]? = some p := ⟨_, List.getElem?_eq_getElem hj⟩
      obtain ⟨y, hy⟩ : ∃ y, xs[j]? = some y := ⟨_, List.getElem?_eq_getElem (by rw [HLEN.out]; exact hj)⟩
      obtain ⟨hl1, hrl⟩ := HM2.out.like j p y hp hy
      have hcl := (HM2.out.row.cell hy (j := 4) rfl).1
      have hup := (HM2.out.row.cell hy (j := 3) rfl).1
      rw [hl1] at hup
      have r0 := pw_cell_below HC.out s0
      have BK2 := Aside0.mk (blk_below BK.out HC.out)
      obtain ⟨c0, c1, c2⟩ := MBlk.c3 BK2.out
      have hp8 := hls p (List.mem_of_getElem? hp)
      have HP := Aside0.mk hp
      obtain ⟨x, hx⟩ : ∃ x : Int, (j : Int) = x := ⟨_, rfl⟩
      have hxi : x.toNat = j := by omega
      rw [hx]
      have HX := Aside0.mk hx
      have b1 : decide (x < (st.length : Int)) = true := decide_eq_true (by omega)
      have p1 : (0 ≤ x) = True := eq_true (by omega)
      have q1 : (x < (st.length : Int)) = True := eq_true (by omega)
      have hn : wrap64 (x + 1) = ((j + 1 : Nat) : Int) := by unfold wrap64; omega
      have HN := Aside0.mk hn
      obtain ⟨gk, rfl⟩ : ∃ q, gk = q + 1 := ⟨gk - 1, by have := HJ.out.1; omega⟩
      have hbc := fun W (hW : Below wr.heap.size wr W) => best_calls W pb j (sv y.l) p.ls (RL.keep hrl (fun k hk => hW.block k (RL.lt hrl k hk))) hp8 (pw_cell_below hW hcl) a
      obtain ⟨b, hbb⟩ : ∃ b, best p.ls a = b := ⟨_, rfl⟩
      have HBB := Aside0.mk hbb
      rw [hbb] at hbc
      clear hn hx hbb hcl hp hy hj hl1 hrl
      go_wp2_with fail
      go_region_held3 (fun w2 => w2.cell? ⟨sb, 0, none⟩ = some (.slice (some ⟨pb, 0, none⟩) st.length c) ∧ w2.cell? ⟨g, 0, none⟩ = some (.bool a.f0) ∧ w2.cell? ⟨g, 1, none⟩ = some (.int .u64 a.f1) ∧ w2.cell? ⟨g, 2, none⟩ = some (.int .u64 a.f2)) (first | (with_reducible exact ⟨r0, c0, c1, c2⟩) | (with_reducible exact ⟨pw_cell_below HD.out r0, pw_cell_below HD.out c0, pw_cell_below HD.out c1, pw_cell_below HD.out c2⟩) | (with_reducible exact ⟨pw_cell_below (below_alloc HD.out _) r0, pw_cell_below (below_alloc HD.out _) c0, pw_cell_below (below_alloc HD.out _) c1, pw_cell_below (below_alloc HD.out _) c2⟩) | (with_reducible exact ⟨pw_cell_below (below4 HD.out (Nat.le_refl _)) r0, pw_cell_below (below4 HD.out (Nat.le_refl _)) c0, pw_cell_below (below4 HD.out (Nat.le_refl _)) c1, pw_cell_below (below4 HD.out (Nat.le_refl _)) c2⟩) | (with_reducible exact ⟨pw_cell_below (below_alloc (Below.refl _ _) _) r0, pw_cell_below (below_alloc (Below.refl _ _) _) c0, pw_cell_below (below_alloc (Below.refl _ _) _) c1, pw_cell_below (below_alloc (Below.refl _ _) _) c2⟩) | (with_reducible exact ⟨pw_cell_below (below_drew1 (below_alloc (Below.refl _ _) _)) r0, pw_cell_below (below_drew1 (below_alloc (Below.refl _ _) _)) c0, pw_cell_below (below_drew1 (below_alloc (Below.refl _ _) _)) c1, pw_cell_below (below_drew1 (below_alloc (Below.refl _ _) _)) c2⟩) | (with_reducible exact ⟨pw_cell_below (below_alloc (below_drew1 (Below.refl _ _)) _) r0, pw_cell_below (below_alloc (below_drew1 (Below.refl _ _)) _) c0, pw_cell_below (below_alloc (below_drew1 (Below.refl _ _)) _) c1, pw_cell_below (below_alloc (below_drew1 (Below.refl _ _)) _) c2⟩) | (exact ⟨r0, c0, c1, c2⟩)) (first | (go_at_call 28; refine Calls.mono (hbc _ ?hb) ?_; (case hb => (repeat (first | exact Below.refl _ _ | apply below_alloc | apply below_drew1 | apply pw_below_drewN))); rintro e w2 ⟨rfl, hb⟩; have HD := Aside0.mk (show Below wr.heap.size wr w2 from below_step (by repeat (first | exact Below.refl _ _ | apply below_alloc | apply below_drew1 | apply pw_below_drewN)) hb); try (have BK9 : w2.heap[wr.heap.size]? = some (.cells (lcA zeroL) 34 (0, 0)) := blk_below (w := (wr.alloc (.cells (lcA zeroL) 34)).drew) (blk_new wr (.cells (lcA zeroL) 34)) hb; obtain ⟨z0, z1, z2, z3⟩ := MBlk.c4 BK9; obtain ⟨f0, f1, f2, f3⟩ := MBlk.f4 BK9; have BK9 := Aside0.mk BK9); have k0 := pw_cell_below HD.out r0; have d0 := pw_cell_below HD.out c0; have d1 := pw_cell_below HD.out c1; have d2 := pw_cell_below HD.out c2; have n0 := World.new_ne w2 _ k0; have n1 := World.new_ne w2 _ d0; clear hb) | fail)
      all_goals (go_upto_region 6 with (fail))
      · have hk5 : (w2.alloc (.cells #[.bool b.f0.f0, .int .u64 b.f0.f1, .int .u64 b.f0.f2, .int .i64 b.f1] 34)).heap[w2.heap.size]? = some (.cells #[.bool b.f0.f0, .int .u64 b.f0.f1, .int .u64 b.f0.f2, .int .i64 b.f1] 34 (0, 0)) := blk_new w2 _
        have hd5 : Below wr.heap.size wr (w2.alloc (.cells #[.bool b.f0.f0, .int .u64 b.f0.f1, .int .u64 b.f0.f2, .int .i64 b.f1] 34)) := below_alloc HD.out _
        generalize w2.alloc (.cells #[.bool b.f0.f0, .int .u64 b.f0.f1, .int .u64 b.f0.f2, .int .i64 b.f1] 34) = W5 at hk5 hd5 ⊢
        generalize w2.heap.size = g9 at hk5 ⊢
        have BK5 := Aside0.mk hk5
        have HC5 := Aside0.mk (below_step HC.out hd5)
        have k0 := pw_cell_below hd5 r0
        have ku := pw_cell_below hd5 hup
        obtain ⟨z0, z1, z2, z3⟩ := MBlk.c4 hk5
        clear hk5 hd5 r0 hup c0 c1 c2
        by_cases t1 : 0 < b.f1
        · cases hu : p.up with
          | true =>
            have HU := Aside0.mk hu
            rw [hu] at ku
            clear hu
            by_cases t2 : o2 < b.f1
            · have HT := Aside0.mk (And.intro t1 t2)
              go_wp2_with fail
              go_region
              go_wp2
              go_roundg gk
              case measure => omega
              case rel => exact ⟨j + 1, ((j : Int) + 1, b.f1), by first | (rw [HN.out]; exact congrArg _ (by omega)) | exact congrArg _ (by have := HX.out; omega), rfl, by first | rw [HN.out] | exact congrArg _ (by have := HX.out; omega), ⟨by have := HJ.out.1; omega, by rw [nearAt_succ HP.out, HBB.out, ← HJ.out.2, if_pos ⟨HT.out.1, HU.out, HT.out.2⟩]⟩, ⟨below_drew1 HC5.out⟩⟩
            · have HT := Aside0.mk t2
              go_wp2
              go_roundg gk
              case measure => omega
              case rel => exact ⟨j + 1, (o1, o2), rfl, rfl, by first | rw [HN.out] | exact congrArg _ (by have := HX.out; omega), ⟨by have := HJ.out.1; omega, by rw [nearAt_succ HP.out, HBB.out, ← HJ.out.2, if_neg (fun z => by have h1 := HT.out; have h2 := z.2.2; simp only at h2; omega)]⟩, HC5⟩
          | false =>
            have HU := Aside0.mk hu
            rw [hu] at ku
            clear hu
            go_wp2
            go_roundg gk
            case measure => omega
            case rel => exact ⟨j + 1, (o1, o2), rfl, rfl, by first | rw [HN.out] | exact congrArg _ (by have := HX.out; omega), ⟨by have := HJ.out.1; omega, by rw [nearAt_succ HP.out, HBB.out, ← HJ.out.2, if_neg (fun z => by rw [HU.out] at z; exact absurd z.2.1 (by decide))]⟩, HC5⟩
        · have HT := Aside0.mk t1
          go_wp2
          go_roundg gk
          case measure => omega
          case rel => exact ⟨j + 1, (o1, o2), rfl, rfl, by first | rw [HN.out] | exact congrArg _ (by have := HX.out; omega), ⟨by have := HJ.out.1; omega, by rw [nearAt_succ HP.out, HBB.out, ← HJ.out.2, if_neg (fun z => by have h1 := HT.out; have h2 := z.1; omega)]⟩, HC5⟩
      · have hk5 : ((((w2.setCell ⟨wr.heap.size, 0, none⟩ (.bool b.f0.f0)).setCell ⟨wr.heap.size, 1, none⟩ (.int .u64 b.f0.f1)).setCell ⟨wr.heap.size, 2, none⟩ (.int .u64 b.f0.f2)).setCell ⟨wr.heap.size, 3, none⟩ (.int .i64 b.f1)).heap[wr.heap.size]? = some (.cells #[.bool b.f0.f0, .int .u64 b.f0.f1, .int .u64 b.f0.f2, .int .i64 b.f1] 34 (0, 0)) := put4 BK9.out
        have hd5 : Below wr.heap.size wr ((((w2.setCell ⟨wr.heap.size, 0, none⟩ (.bool b.f0.f0)).setCell ⟨wr.heap.size, 1, none⟩ (.int .u64 b.f0.f1)).setCell ⟨wr.heap.size, 2, none⟩ (.int .u64 b.f0.f2)).setCell ⟨wr.heap.size, 3, none⟩ (.int .i64 b.f1)) := below4 HD.out (Nat.le_refl _)
        generalize ((((w2.setCell ⟨wr.heap.size, 0, none⟩ (.bool b.f0.f0)).setCell ⟨wr.heap.size, 1, none⟩ (.int .u64 b.f0.f1)).setCell ⟨wr.heap.size, 2, none⟩ (.int .u64 b.f0.f2)).setCell ⟨wr.heap.size, 3, none⟩ (.int .i64 b.f1)) = W5 at hk5 hd5 ⊢
        clear z0 z1 z2 z3 f0 f1 f2 f3
        obtain ⟨g9, hg9⟩ : ∃ g9, wr.heap.size = g9 := ⟨_, rfl⟩
        rw [hg9] at hk5 ⊢
        clear hg9
        have BK5 := Aside0.mk hk5
        have HC5 := Aside0.mk (below_step HC.out hd5)
        have k0 := pw_cell_below hd5 r0
        have ku := pw_cell_below hd5 hup
        obtain ⟨z0, z1, z2, z3⟩ := MBlk.c4 hk5
        clear hk5 hd5 r0 hup c0 c1 c2
        by_cases t1 : 0 < b.f1
        · cases hu : p.up with
          | true =>
            have HU := Aside0.mk hu
            rw [hu] at ku
            clear hu
            by_cases t2 : o2 < b.f1
            · have HT := Aside0.mk (And.intro t1 t2)
              go_wp2_with fail
              go_region
              go_wp2
              go_roundg gk
              case measure => omega
              case rel => exact ⟨j + 1, ((j : Int) + 1, b.f1), by first | (rw [HN.out]; exact congrArg _ (by omega)) | exact congrArg _ (by have := HX.out; omega), rfl, by first | rw [HN.out] | exact congrArg _ (by have := HX.out; omega), ⟨by have := HJ.out.1; omega, by rw [nearAt_succ HP.out, HBB.out, ← HJ.out.2, if_pos ⟨HT.out.1, HU.out, HT.out.2⟩]⟩, ⟨below_drew1 HC5.out⟩⟩
            · have HT := Aside0.mk t2
              go_wp2
              go_roundg gk
              case measure => omega
              case rel => exact ⟨j + 1, (o1, o2), rfl, rfl, by first | rw [HN.out] | exact congrArg _ (by have := HX.out; omega), ⟨by have := HJ.out.1; omega, by rw [nearAt_succ HP.out, HBB.out, ← HJ.out.2, if_neg (fun z => by have h1 := HT.out; have h2 := z.2.2; simp only at h2; omega)]⟩, HC5⟩
          | false =>
            have HU := Aside0.mk hu
            rw [hu] at ku
            clear hu
            go_wp2
            go_roundg gk
            case measure => omega
            case rel => exact ⟨j + 1, (o1, o2), rfl, rfl, by first | rw [HN.out] | exact congrArg _ (by have := HX.out; omega), ⟨by have := HJ.out.1; omega, by rw [nearAt_succ HP.out, HBB.out, ← HJ.out.2, if_neg (fun z => by rw [HU.out] at z; exact absurd z.2.1 (by decide))]⟩, HC5⟩
        · have HT := Aside0.mk t1
          go_wp2
          go_roundg gk
          case measure => omega
          case rel => exact ⟨j + 1, (o1, o2), rfl, rfl, by first | rw [HN.out] | exact congrArg _ (by have := HX.out; omega), ⟨by have := HJ.out.1; omega, by rw [nearAt_succ HP.out, HBB.out, ← HJ.out.2, if_neg (fun z => by have h1 := HT.out; have h2 := z.1; omega)]⟩, HC5⟩
    · have hd : nearAt a st j = (o1, o2) := HJ.out.2.symm
      have hjl : j = st.length := by have := HJ.out.1; omega
      have hv : near st a = o1 := by unfold near; rw [← hjl]; exact congrArg Prod.fst hd
      obtain ⟨x, hx⟩ : ∃ x : Int, (j : Int) = x := ⟨_, rfl⟩
      have b1 : decide (x < (st.length : Int)) = false := decide_eq_false (by omega)
      have HV := Aside0.mk hv
      rw [hx]
      clear hd hjl hv hx hj
      go_wp2
      go_ret2
      rw [HV.out]
      exact ⟨rfl, below_then HB.out HB.out.size HC.out⟩
end
end Go.Proofs.Ytefbcigccfkkgaa.WIf
namespace Go.Proofs.Ytefbcigccfkkgaa.WIf
open Go.RowKit Go.Maps Go.WideMaps Go.Proofs.Ytefbcigccfkkgaa.PBase Go.Proofs.YtefbcigccfkkgaaW.PrintWords Go.Proofs.YtefbcigccfkkgaaW.PrintLast Go.Proofs.YtefbcigccfkkgaaW.PrintMore Go.Proofs.Ytefbcigccfkkgaa.If
attribute [local go_sem] max2_int min2_int max_two min_two
abbrev adA (a : Ad) : Array Value := #[.bool a.f0, .int .u64 a.f1, .int .u64 a.f2]
theorem put3 {w : World} {g t : Nat} {a0 a1 a2 b0 b1 b2 : Value} (h : w.heap[g]? = some (.cells #[a0, a1, a2] t (0, 0))) : (((w.setCell ⟨g, 0, none⟩ b0).setCell ⟨g, 1, none⟩ b1).setCell ⟨g, 2, none⟩ b2).heap[g]? = some (.cells #[b0, b1, b2] t (0, 0)) :=
  blk_put (blk_put (blk_put h 0 b0 rfl) 1 b1 rfl) 2 b2 rfl
theorem below3 {w0 w : World} {g : Nat} {b0 b1 b2 : Value} (h : Below w0.heap.size w0 w) (hg : w0.heap.size ≤ g) : Below w0.heap.size w0 (((w.setCell ⟨g, 0, none⟩ b0).setCell ⟨g, 1, none⟩ b1).setCell ⟨g, 2, none⟩ b2) :=
  below_set (below_set (below_set h hg) hg) hg
structure Ss (w0 w : World) (g5 g6 : Nat) (a : Ad) : Prop where mk ::
  (b5 : w.heap[g5]? = some (.cells (adA a) 25 (0, 0)))
  (b6 : w.heap[g6]? = some (.cells (adA zeroA) 25 (0, 0)))
  (ge : w0.heap.size ≤ g5 ∧ w0.heap.size ≤ g6)
  (bel : Below w0.heap.size w0 w)
theorem Ss.below {w0 w w1 : World} {g5 g6 : Nat} {a : Ad} (h : Ss w0 w g5 g6 a) (hb : Below w.heap.size w w1) : Ss w0 w1 g5 g6 a :=
  ⟨blk_below h.b5 hb, blk_below h.b6 hb, h.ge, below_step h.bel hb⟩
theorem fam_none {ls : List Lo} {six : Bool} (h : ∀ (j : Nat) l, j < ls.length → ls[j]? = some l → l.f0.f0 ≠ six) : famN ls six = none := by
  unfold famN
  rw [List.find?_eq_none]
  intro l hl
  obtain ⟨j, hj⟩ := List.mem_iff_getElem?.1 hl
  simpa using h j l (List.getElem?_eq_some_iff.1 hj).1 hj
theorem fam_some {ls : List Lo} {six : Bool} {j : Nat} {l : Lo} (hl : ls[j]? = some l) (h6 : l.f0.f0 = six) (h : ∀ (i : Nat) m, i < j → ls[i]? = some m → m.f0.f0 ≠ six) : famN ls six = some l := by
  unfold famN
  rw [List.find?_eq_some_iff_getElem]
  obtain ⟨hj, e⟩ := List.getElem?_eq_some_iff.1 hl
  refine ⟨by simpa using h6, j, hj, e, fun i hi => ?_⟩
  have := h i ls[i] hi (List.getElem?_eq_getElem (by omega))
  simpa using this
def srcR (b : Lo) (f : Option Lo) : Ad × Bool := if b.f1 > 0 then (b.f0, true) else match f with | some l => (l.f0, true) | none => (zeroA, false)
theorem srcR_best {b : Lo} {f : Option Lo} (h : 0 < b.f1) : (b.f0, true) = srcR b f := by unfold srcR; rw [if_pos h]
theorem srcR_some {b : Lo} {l : Lo} (h : b.f1 ≤ 0) : (l.f0, true) = srcR b (some l) := by unfold srcR; rw [if_neg (by omega)]
theorem srcR_none {b : Lo} (h : b.f1 ≤ 0) : (zeroA, false) = srcR b none := by unfold srcR; rw [if_neg (by omega)]
section
variable {w : World} {S : Nat → Prop} {sb mb : Nat} {v : Value} {xs : List PS} {st : St}
set_option maxHeartbeats 1000000 in
set_option maxRecDepth 100000 in
theorem source_none (h : Mem w S sb mb v xs st) (h8 : st.length ≤ 8) (n : Int) (a : Ad) (hn : at? st n = none) :
    Calls Try.prog 10 #[.pointer (some ⟨sb, 0, none⟩), .int .i64 n, .agg (adA a)] w fun e w' => e = .returned (.tuple #[.agg (adA zeroA), .bool false]) ∧ Below w.heap.size w w' := by
  have hu25 := Try.underlying25
  have HB := Aside0.mk (Below.refl w.heap.size w)
  go_enter Try.func10, Try.ntmps10
  go_wp2_with (first | ((with_reducible refine gate_dst (N := 5) rfl ?_); refine sh_E 5 25 (adA a) ?_; intro g5 hg w1 hbox hb; replace HB := sh_S HB hb; have HM := Aside0.mk (h.below hb); clear hbox hb hg) | ((with_reducible refine gate_dst (N := 6) rfl ?_); refine sh_E 6 25 (adA zeroA) ?_; intro g6 hg w2 hbox hb; have GE6 := sh_G HB hg; replace HB := sh_S HB hb; replace HM := Aside0.mk (HM.out.below hb); have BK6 := Aside0.mk hbox; obtain ⟨c0, c1, c2⟩ := MBlk.c3 hbox; obtain ⟨f0, f1, f2⟩ := MBlk.f3 hbox; clear hbox hb hg) | fail)
  refine Calls.mono (of_none HM.out h8 n hn) ?_
  rintro e w' ⟨rfl, rfl⟩
  go_wp2
  refine bodyPost_ret (results_ct rfl _ _ g6 25 (adA zeroA) (0, 0) _ rfl (put3 BK6.out) hu25 rfl (by kernel_rfl)) rfl ?_
  exact ⟨rfl, below3 HB.out GE6.out⟩
set_option maxHeartbeats 1000000 in
set_option maxRecDepth 100000 in
theorem source_not (h : Mem w S sb mb v xs st) (h8 : st.length ≤ 8) (n : Int) (a : Ad) {i : Nat} (hn : at? st n = some i) (hva : validB a = false) :
    Calls Try.prog 10 #[.pointer (some ⟨sb, 0, none⟩), .int .i64 n, .agg (adA a)] w fun e w' => e = .returned (.tuple #[.agg (adA zeroA), .bool false]) ∧ Below w.heap.size w w' := by
  have hu25 := Try.underlying25
  have HB := Aside0.mk (Below.refl w.heap.size w)
  obtain ⟨p, x, pb, c, hp, hx, hv, hS⟩ := at_get h hn
  have hval := fun W => addr_Valid.calls a.f0 a.f1 a.f2 false W (by rw [valid_some]; exact congrArg some hva)
  go_enter Try.func10, Try.ntmps10
  go_wp2_with (first | ((with_reducible refine gate_dst (N := 5) rfl ?_); refine sh_E 5 25 (adA a) ?_; intro g5 hg w1 hbox hb; replace HB := sh_S HB hb; have HM := Aside0.mk (h.below hb); have BK5 := Aside0.mk hbox; obtain ⟨d0, d1, d2⟩ := MBlk.c3 hbox; clear hbox hb hg) | ((with_reducible refine gate_dst (N := 6) rfl ?_); refine sh_E 6 25 (adA zeroA) ?_; intro g6 hg w2 hbox hb; have GE6 := sh_G HB hg; replace HB := sh_S HB hb; replace HM := Aside0.mk (HM.out.below hb); have BK6 := Aside0.mk hbox; replace d0 := pw_cell_below hb d0; replace d1 := pw_cell_below hb d1; replace d2 := pw_cell_below hb d2; clear hbox hb hg) | fail)
  refine Calls.mono (of_some HM.out h8 n hn hv) ?_
  rintro e w' ⟨rfl, rfl⟩
  go_wp2_with fail
  refine Calls.mono (hval _) ?_
  rintro e w3 ⟨rfl, hb⟩
  replace HB := sh_S HB hb
  replace BK6 := Aside0.mk (blk_below BK6.out hb)
  obtain ⟨c0, c1, c2⟩ := MBlk.c3 BK6.out
  obtain ⟨f0, f1, f2⟩ := MBlk.f3 BK6.out
  clear hb d0 d1 d2
  go_wp2
  refine bodyPost_ret (results_ct rfl _ _ g6 25 (adA zeroA) (0, 0) _ rfl (put3 BK6.out) hu25 rfl (by kernel_rfl)) rfl ?_
  exact ⟨rfl, below3 HB.out GE6.out⟩
set_option maxHeartbeats 4000000 in
set_option maxRecDepth 100000 in
theorem source_done (h : Mem w S sb mb v xs st) (h8 : st.length ≤ 8) (n : Int) (a : Ad) {i : Nat} (hn : at? st n = some i) (hva : validB a = true) {p : Pt} (hp : st[i]? = some p) (hp8 : p.ls.length ≤ 8) :
    Calls Try.prog 10 #[.pointer (some ⟨sb, 0, none⟩), .int .i64 n, .agg (adA a)] w fun e w' => (∃ r : Ad × Bool, e = .returned (.tuple #[.agg (adA r.1), .bool r.2]) ∧ r = srcR (best p.ls a) (famN p.ls a.f0)) ∧ Below w.heap.size w w' := by
  have hu25 := Try.underlying25
  have hu34 := Try.underlying34
  have HB := Aside0.mk (Below.refl w.heap.size w)
  obtain ⟨p', x, pb, c, hp', hx, hv, hS⟩ := at_get h hn
  obtain rfl : p = p' := Option.some.inj (hp.symm.trans hp')
  have hval := fun W => addr_Valid.calls a.f0 a.f1 a.f2 true W (by rw [valid_some]; exact congrArg some hva)
  have hcl := fun W (hW : Mem W S sb mb v xs st) => ((hv ▸ hW.row).cell hx (j := 4) rfl).1
  have hbc := fun W (hW : Mem W S sb mb v xs st) => best_calls W pb i (sv x.l) p.ls (hW.like i p x hp hx).2 hp8 (hcl W hW) a
  obtain ⟨b, hbb⟩ : ∃ b, best p.ls a = b := ⟨_, rfl⟩
  rw [hbb] at hbc ⊢
  clear hbb
  go_enter Try.func10, Try.ntmps10
  go_wp2_with (first | ((with_reducible refine gate_dst (N := 5) rfl ?_); refine sh_E 5 25 (adA a) ?_; intro g5 hg w1 hbox hb; have GE5 := sh_G HB hg; replace HB := sh_S HB hb; have HM := Aside0.mk (h.below hb); have BK5 := Aside0.mk hbox; clear hbox hb hg) | ((with_reducible refine gate_dst (N := 6) rfl ?_); refine sh_E 6 25 (adA zeroA) ?_; intro g6 hg w2 hbox hb; have GE6 := sh_G HB hg; replace HB := sh_S HB hb; replace HM := Aside0.mk (HM.out.below hb); have BK6 := Aside0.mk hbox; replace BK5 := sh_L BK5 hb; clear hbox hb hg) | fail)
  have HSS := Aside0.mk (show Ss w w2 g5 g6 a from ⟨BK5.out, BK6.out, ⟨GE5.out, GE6.out⟩, HB.out⟩)
  clear BK5 BK6 GE5 GE6 HB
  refine Calls.mono (of_some HM.out h8 n hn hv) ?_
  rintro e w' ⟨rfl, rfl⟩
  obtain ⟨d0, d1, d2⟩ := MBlk.c3 HSS.out.b5
  go_wp2_with fail
  refine Calls.mono (hval _) ?_
  rintro e w3 ⟨rfl, hb⟩
  replace HSS := Aside0.mk (HSS.out.below hb)
  replace HM := Aside0.mk (HM.out.below hb)
  clear hb d0 d1 d2
  obtain ⟨d0, d1, d2⟩ := MBlk.c3 HSS.out.b5
  go_wp2_with fail
  refine Calls.mono (hbc _ HM.out) ?_
  rintro e w4 ⟨rfl, hb⟩
  replace HSS := Aside0.mk (HSS.out.below hb)
  replace HM := Aside0.mk (HM.out.below hb)
  clear hb d0 d1 d2
  go_upto_region 5 with (first | ((with_reducible refine gate_dst (N := 9) rfl ?_); refine sh_E 9 34 (lcA zeroL) ?_; intro g9 hg W1 hbox hb; have HG9 := Aside0.mk hg; have BK9 := Aside0.mk hbox; have HBB := Aside0.mk hb; obtain ⟨c0, c1, c2, c3⟩ := MBlk.c4 hbox; obtain ⟨f0, f1, f2, f3⟩ := MBlk.f4 hbox; clear hbox hb hg) | fail)
  have hk9 := put4 (b0 := .bool b.f0.f0) (b1 := .int .u64 b.f0.f1) (b2 := .int .u64 b.f0.f2) (b3 := .int .i64 b.f1) BK9.out
  have hb9 : Below w4.heap.size w4 ((((W1.setCell ⟨g9, 0, none⟩ (.bool b.f0.f0)).setCell ⟨g9, 1, none⟩ (.int .u64 b.f0.f1)).setCell ⟨g9, 2, none⟩ (.int .u64 b.f0.f2)).setCell ⟨g9, 3, none⟩ (.int .i64 b.f1)) := below4 HBB.out (by have := HG9.out; omega)
  clear BK9 HBB HG9 c0 c1 c2 c3 f0 f1 f2 f3
  generalize ((((W1.setCell ⟨g9, 0, none⟩ (.bool b.f0.f0)).setCell ⟨g9, 1, none⟩ (.int .u64 b.f0.f1)).setCell ⟨g9, 2, none⟩ (.int .u64 b.f0.f2)).setCell ⟨g9, 3, none⟩ (.int .i64 b.f1)) = W2 at hk9 hb9 ⊢
  clear W1
  replace HSS := Aside0.mk (HSS.out.below hb9)
  replace HM := Aside0.mk (HM.out.below hb9)
  have hc := hcl _ HM.out
  obtain ⟨_, hrl⟩ := HM.out.like i p x hp hx
  obtain ⟨A, c', ex, hC⟩ := RL.reads hrl
  rw [ex] at hc
  obtain ⟨c0, c1, c2, c3⟩ := MBlk.c4 hk9
  obtain ⟨z0, z1, z2⟩ := MBlk.c3 HSS.out.b6
  obtain ⟨f0, f1, f2⟩ := MBlk.f3 HSS.out.b6
  clear hb9 hk9 hrl ex hval hbc hcl
  by_cases t1 : 0 < b.f1
  · clear hC hc
    go_wp2
    refine bodyPost_ret (results_ct rfl _ _ g6 25 (adA b.f0) (0, 0) _ rfl (put3 HSS.out.b6) hu25 rfl (by kernel_rfl)) rfl ?_
    exact ⟨⟨(b.f0, true), rfl, srcR_best t1⟩, below3 HSS.out.bel HSS.out.ge.2⟩
  · have HC := Aside0.mk hC
    have HT := Aside0.mk t1
    clear hC c0 c1 c2 c3 z0 z1 z2 f0 f1 f2
    go_wp2_with fail
    go_loopg [38] p.ls.length (fun kq v38 w' => ∃ (j : Nat), v38 = .int .i64 (j : Int) ∧ Aside0 (j + kq = p.ls.length ∧ ∀ (i : Nat) m, i < j → p.ls[i]? = some m → m.f0.f0 ≠ a.f0) ∧ Aside0 (Ss w w' g5 g6 a) ∧ Aside0 (Below W2.heap.size W2 w'))
    case atStart => exact ⟨0, rfl, ⟨by omega, fun i m hi => by omega⟩, HSS, ⟨Below.refl _ _⟩⟩
    case round =>
      clear HSS
      obtain ⟨j, rfl, HJ, HSS, HC2⟩ := hrel
      obtain ⟨z0, z1, z2⟩ := MBlk.c3 HSS.out.b6
      obtain ⟨f0, f1, f2⟩ := MBlk.f3 HSS.out.b6
      obtain ⟨d0, d1, d2⟩ := MBlk.c3 HSS.out.b5
      by_cases hj : j < p.ls.length
      · obtain ⟨ad, e, x0, x1, x2, x3⟩ := at_T34 (Kd.C_below HC.out HC2.out) (j : Int) (by omega) (by omega)
        subst e
        have hrd : rd_T34 p.ls (j : Int) = p.ls[j] := by
          unfold rd_T34
          rw [Int.toNat_natCast, List.getD_eq_getElem?_getD, List.getElem?_eq_getElem hj, Option.getD_some]
        rw [hrd] at x0 x1 x2 x3
        obtain ⟨l, hl⟩ : ∃ l, p.ls[j] = l := ⟨_, rfl⟩
        rw [hl] at x0 x1 x2 x3
        have HGET := Aside0.mk (show p.ls[j]? = some l by rw [List.getElem?_eq_getElem hj, hl])
        obtain ⟨y, hy⟩ : ∃ y : Int, (j : Int) = y := ⟨_, rfl⟩
        rw [hy] at x0 x1 x2 x3 ⊢
        have HX := Aside0.mk hy
        have b1 : decide (y < (p.ls.length : Int)) = true := decide_eq_true (by omega)
        have p1 : (0 ≤ y) = True := eq_true (by omega)
        have q1 : (y < (p.ls.length : Int)) = True := eq_true (by omega)
        have hn' : wrap64 (y + 1) = ((j + 1 : Nat) : Int) := by unfold wrap64; omega
        have HN := Aside0.mk hn'
        obtain ⟨gk, rfl⟩ : ∃ q, gk = q + 1 := ⟨gk - 1, by have := HJ.out.1; omega⟩
        clear hl hy hj hrd hn' z0 z1 z2 f0 f1 f2 d0 d1 d2
        go_upto_region 10 with (first | ((with_reducible refine gate_dst (N := 12) rfl ?_); refine sh_E 12 34 (lcA zeroL) ?_; intro g8 hg W1 hbox hb; have HG8 := Aside0.mk hg; have BK8 := Aside0.mk hbox; have HBB := Aside0.mk hb; obtain ⟨c0, c1, c2, c3⟩ := MBlk.c4 hbox; obtain ⟨f0, f1, f2, f3⟩ := MBlk.f4 hbox; clear hbox hb hg x0 x1 x2 x3) | fail)
        have hk8 := put4 (b0 := .bool l.f0.f0) (b1 := .int .u64 l.f0.f1) (b2 := .int .u64 l.f0.f2) (b3 := .int .i64 l.f1) BK8.out
        have hb8 : Below wr.heap.size wr ((((W1.setCell ⟨g8, 0, none⟩ (.bool l.f0.f0)).setCell ⟨g8, 1, none⟩ (.int .u64 l.f0.f1)).setCell ⟨g8, 2, none⟩ (.int .u64 l.f0.f2)).setCell ⟨g8, 3, none⟩ (.int .i64 l.f1)) := below4 HBB.out (by have := HG8.out; omega)
        clear HG8 HBB BK8 c0 c1 c2 c3 f0 f1 f2 f3
        generalize ((((W1.setCell ⟨g8, 0, none⟩ (.bool l.f0.f0)).setCell ⟨g8, 1, none⟩ (.int .u64 l.f0.f1)).setCell ⟨g8, 2, none⟩ (.int .u64 l.f0.f2)).setCell ⟨g8, 3, none⟩ (.int .i64 l.f1)) = W3 at hk8 hb8 ⊢
        clear W1
        replace HSS := Aside0.mk (HSS.out.below hb8)
        replace HC2 := Aside0.mk (below_step HC2.out hb8)
        obtain ⟨c0, c1, c2, c3⟩ := MBlk.c4 hk8
        obtain ⟨z0, z1, z2⟩ := MBlk.c3 HSS.out.b6
        obtain ⟨f0, f1, f2⟩ := MBlk.f3 HSS.out.b6
        obtain ⟨d0, d1, d2⟩ := MBlk.c3 HSS.out.b5
        clear hk8 hb8
        by_cases h6 : l.f0.f0 = a.f0
        · have HF := Aside0.mk (fam_some HGET.out h6 HJ.out.2)
          have h6b : (l.f0.f0 == a.f0) = true := by rw [h6]; simp
          clear h6
          go_wp2
          refine bodyPost_ret (results_ct rfl _ _ g6 25 (adA l.f0) (0, 0) _ rfl (put3 HSS.out.b6) hu25 rfl (by kernel_rfl)) rfl ?_
          exact ⟨⟨(l.f0, true), rfl, by rw [HF.out]; exact srcR_some HT.out⟩, below3 HSS.out.bel HSS.out.ge.2⟩
        · have h6b : (l.f0.f0 == a.f0) = false := by simpa using h6
          have H6 := Aside0.mk h6
          clear h6
          go_wp2
          go_roundg gk
          case measure => omega
          case rel => exact ⟨j + 1, by first | rw [HN.out] | exact congrArg _ (by have := HX.out; omega), ⟨by have := HJ.out.1; omega, fun i m hi hm => by
            rcases Nat.lt_or_ge i j with q | q
            · exact HJ.out.2 i m q hm
            · obtain rfl : i = j := by omega
              rw [HGET.out] at hm
              obtain rfl := Option.some.inj hm
              exact H6.out⟩, HSS, HC2⟩
      · have HF := Aside0.mk (fam_none (ls := p.ls) (six := a.f0) (fun i l hi hl => HJ.out.2 i l (by omega) hl))
        obtain ⟨y, hy⟩ : ∃ y : Int, (j : Int) = y := ⟨_, rfl⟩
        have b1 : decide (y < (p.ls.length : Int)) = false := decide_eq_false (by omega)
        rw [hy]
        clear hy hj
        go_wp2
        refine bodyPost_ret (results_ct rfl _ _ g6 25 (adA zeroA) (0, 0) _ rfl (put3 HSS.out.b6) hu25 rfl (by kernel_rfl)) rfl ?_
        exact ⟨⟨(zeroA, false), rfl, by rw [HF.out]; exact srcR_none HT.out⟩, below3 HSS.out.bel HSS.out.ge.2⟩
theorem source_calls (h : Mem w S sb mb v xs st) (h8 : st.length ≤ 8) (hls : ∀ p ∈ st, p.ls.length ≤ 8) (n : Int) (a : Ad) :
    Calls Try.prog 10 #[.pointer (some ⟨sb, 0, none⟩), .int .i64 n, .agg (adA a)] w fun e w' => e = .returned (.tuple #[.agg (adA (source st n a).1), .bool (source st n a).2]) ∧ Below w.heap.size w w' := by
  cases hn : at? st n with
  | none =>
    have e : source st n a = (zeroA, false) := by unfold source; rw [hn]
    rw [e]
    exact source_none h h8 n a hn
  | some i =>
    cases hva : validB a with
    | false =>
      have e : source st n a = (zeroA, false) := by unfold source; simp only [hn, hva, if_pos]
      rw [e]
      exact source_not h h8 n a hn hva
    | true =>
      obtain ⟨p, x, pb, c, hp, hx, hv, hS⟩ := at_get h hn
      have e : source st n a = srcR (best p.ls a) (famN p.ls a.f0) := by
        unfold source srcR
        have hl : (st[i]?.map (·.ls)).getD [] = p.ls := by rw [hp]; rfl
        simp only [hn, hva, hl, Bool.true_eq_false, if_false]
        rfl
      refine Calls.mono (source_done h h8 n a hn hva hp (hls p (List.mem_of_getElem? hp))) ?_
      rintro e' w' ⟨⟨r, h1, h2⟩, h3⟩
      rw [e, ← h2]
      exact ⟨h1, h3⟩
end
end Go.Proofs.Ytefbcigccfkkgaa.WIf
namespace Go.Proofs.Ytefbcigccfkkgaa.WIf
open Go.RowKit Go.Maps Go.WideMaps Go.Proofs.Ytefbcigccfkkgaa.PBase Go.Proofs.YtefbcigccfkkgaaW.PrintWords Go.Proofs.YtefbcigccfkkgaaW.PrintLast Go.Proofs.YtefbcigccfkkgaaW.PrintMore Go.Proofs.Ytefbcigccfkkgaa.If
attribute [local go_sem] max2_int min2_int max_two min_two
structure S45 where
  f0 : Int
  f1 : ByteArray
  f2 : Int
  f3 : Int
  f4 : Int
  f5 : Bool
  f6 : S25
abbrev SI := S45
def zSI : SI := ⟨0, ⟨#[]⟩, 0, 0, 0, false, zeroA⟩
def k45 : Kd SI := Kd.iso (Kd.pair (Kd.int .i64) (Kd.pair Kd.string (Kd.pair (Kd.int .u64) (Kd.pair (Kd.int .i64) (Kd.pair (Kd.int .i64) (Kd.pair Kd.bool k25)))))) (fun x : SI => (x.f0, x.f1, x.f2, x.f3, x.f4, x.f5, x.f6))
def stL (x : SI) : List Value := [.int .i64 x.f0, .string x.f1, .int .u64 x.f2, .int .i64 x.f3, .int .i64 x.f4, .bool x.f5, .bool x.f6.f0, .int .u64 x.f6.f1, .int .u64 x.f6.f2]
abbrev stA (x : SI) : Array Value := #[.int .i64 x.f0, .string x.f1, .int .u64 x.f2, .int .i64 x.f3, .int .i64 x.f4, .bool x.f5, .bool x.f6.f0, .int .u64 x.f6.f1, .int .u64 x.f6.f2]
theorem kSI_open {w : World} {x : SI} {cs : List Value} (h : k45.K w x cs) : cs = stL x := by
  obtain ⟨_, _, rfl, rfl, ⟨_, _, rfl, rfl, ⟨_, _, rfl, rfl, ⟨_, _, rfl, rfl, ⟨_, _, rfl, rfl, ⟨_, _, rfl, rfl, s0⟩⟩⟩⟩⟩⟩ := h
  obtain rfl := k25_open s0
  exact rfl
theorem at_step {w : World} {A : Option Addr} {xs : List SI} (h : Kd.C k45 w A xs.length xs) {i : Nat} {x : SI} (hx : xs[i]? = some x) : ∃ ad, A = some ad ∧ w.cell? (ad.add (i * 9)) = some (.int .i64 x.f0) ∧ ∀ j u, 0 < j → (stL x)[j]? = some u → w.cell? ⟨(ad.add (i * 9)).block, (ad.add (i * 9)).off + j, none⟩ = some u := by
  have hi := (List.getElem?_eq_some_iff.1 hx).1
  obtain ⟨ad, c, e, _, hK, hc0⟩ := Kd.C_get h zSI (i : Int) (by omega) (by omega)
  rw [Int.toNat_natCast] at hc0 hK
  have hg : xs.getD i zSI = x := by rw [List.getD_eq_getElem?_getD, hx]; rfl
  rw [hg] at hK
  have hc : ∀ j u, c[j]? = some u → w.cell? (ad.add (i * 9 + j)) = some u := hc0
  obtain rfl := kSI_open hK
  exact ⟨ad, e, hc 0 _ rfl, fun j u h0 hj => by rw [← add_field _ _ j h0]; exact hc j u hj⟩
def spOf (x : SI) : Sp := ⟨x.f0, x.f1, x.f2, x.f3, x.f4, x.f5, x.f6⟩
def Fit (x : SI) : Prop := 0 ≤ x.f2 ∧ x.f2 < 18446744073709551616 ∧ x.f1.size ≤ maxLen
theorem and7 (n : Int) : bits .and .i64 n 7 = n % 8 := by
  have h127 : (BitVec.ofInt 64 7).toNat = 2 ^ 3 - 1 := by decide
  have key : (BitVec.ofInt 64 n &&& BitVec.ofInt 64 7).toNat = (n % ((2 ^ 64 : Nat) : Int)).toNat % 2 ^ 3 := by
    rw [BitVec.toNat_and, BitVec.toNat_ofInt, h127, Nat.and_two_pow_sub_one_eq_mod]
  show IntKind.i64.wrap ((BitVec.ofInt 64 n &&& BitVec.ofInt 64 7).toNat : Nat) = n % 8
  rw [key, IntKind.wrap_i64]
  omega
theorem Inv.ls8 {st : St} (h : Inv st) : ∀ p ∈ st, p.ls.length ≤ 8 := fun p hp => (h.rows p hp).1
section
variable {w : World} {S : Nat → Prop} {sb mb : Nat} {v : Value} {xs : List PS} {st st' : St}
theorem Stepped.pre {w1 w' : World} (hb : Below w.heap.size w w1) (h : Stepped w1 w' S sb mb st') : Stepped w w' S sb mb st' := by
  obtain ⟨S', v', xs', h1, h2, h3⟩ := h
  refine ⟨S', v', xs', h1, fun k hk => ?_, (Fr.of_below hb).trans h3 (fun k hk => .inl hk)⟩
  have := hb.size
  rcases h2 k hk with q | q
  · exact .inl q
  · exact .inr (by omega)
theorem Stepped.turned {w' : World} (h : (∃ xs', Mem w' S sb mb v xs' st') ∧ Fr S w w') : Stepped w w' S sb mb st' := by
  obtain ⟨⟨xs', h1⟩, h2⟩ := h
  exact ⟨S, v, xs', h1, fun k hk => .inl hk, h2⟩
set_option maxHeartbeats 2000000 in
set_option maxRecDepth 100000 in
theorem do_calls (h : Mem w S sb mb v xs st) (hI : Inv st) (x : SI) (hx : Fit x) :
    Calls Try.prog 15 #[.pointer (some ⟨sb, 0, none⟩), .agg (stA x)] w fun e w' => e = .returned (.tuple #[.int .i64 (If.step st (spOf x)).2.1, .int .i64 (If.step st (spOf x)).2.2]) ∧ Stepped w w' S sb mb (If.step st (spOf x)).1 := by
  have HB := Aside0.mk (Below.refl w.heap.size w)
  obtain ⟨h0, h1, hs⟩ := hx
  have h8 := hI.few
  have hls := Inv.ls8 hI
  obtain ⟨q, hq⟩ : ∃ q, x.f0 % 8 = q := ⟨_, rfl⟩
  have h7 : bits .and .i64 x.f0 7 = q := by rw [and7, hq]
  have HQ := Aside0.mk (show (spOf x).what % 8 = q from hq)
  clear hI hq
  by_cases q0 : q = 0
  · subst q0
    have e0 : If.step st (spOf x) = add st x.f1 x.f2 x.f3 := by unfold If.step; rw [HQ.out, if_pos rfl]; rfl
    rw [e0]
    clear e0
    have hcall := fun W (hW : Mem W S sb mb v xs st) => add_calls hW h8 x.f1 hs x.f2 x.f3 h0 h1
    obtain ⟨r, hr⟩ : ∃ r, add st x.f1 x.f2 x.f3 = r := ⟨_, rfl⟩
    rw [hr] at hcall ⊢
    clear hr
    go_enter Try.func15, Try.ntmps15
    go_wp2_with (first | ((with_reducible refine gate_dst (N := 3) rfl ?_); refine sh_E 3 45 (stA x) ?_; intro g hg w1 hbox hb; replace HB := sh_S HB hb; obtain ⟨c0, c1, c2, c3, c4, c5, c6, c7, c8⟩ := MBlk.c9 hbox; have HM := Aside0.mk (h.below hb); clear hbox hb hg) | fail)
    refine Calls.mono (hcall _ HM.out) ?_
    rintro e w' ⟨rfl, hst⟩
    have HS := Aside0.mk (Stepped.pre HB.out hst)
    clear hst
    go_wp2
    go_ret2
    exact ⟨rfl, HS.out⟩
  by_cases q1 : q = 1
  · subst q1
    have e0 : If.step st (spOf x) = ((turn st x.f4 x.f5).1, 0, (turn st x.f4 x.f5).2) := by unfold If.step; rw [HQ.out, if_neg (by decide), if_pos rfl]; rfl
    rw [e0]
    clear e0
    have hcall := fun W (hW : Mem W S sb mb v xs st) => turn_calls hW h8 x.f4 x.f5
    obtain ⟨r, hr⟩ : ∃ r, turn st x.f4 x.f5 = r := ⟨_, rfl⟩
    rw [hr] at hcall ⊢
    clear hr
    go_enter Try.func15, Try.ntmps15
    go_wp2_with (first | ((with_reducible refine gate_dst (N := 3) rfl ?_); refine sh_E 3 45 (stA x) ?_; intro g hg w1 hbox hb; replace HB := sh_S HB hb; obtain ⟨c0, c1, c2, c3, c4, c5, c6, c7, c8⟩ := MBlk.c9 hbox; have HM := Aside0.mk (h.below hb); clear hbox hb hg) | fail)
    refine Calls.mono (hcall _ HM.out) ?_
    rintro e w' ⟨rfl, hst⟩
    have HS := Aside0.mk (Stepped.pre HB.out (Stepped.turned hst))
    clear hst
    go_wp2
    go_ret2
    exact ⟨rfl, HS.out⟩
  by_cases q5 : q = 5
  · subst q5
    have e0 : If.step st (spOf x) = ((drop st x.f4 x.f6).1, 0, (drop st x.f4 x.f6).2) := by unfold If.step; rw [HQ.out, if_neg (by decide), if_neg (by decide), if_pos rfl]; rfl
    rw [e0]
    clear e0
    have hcall := fun W (hW : Mem W S sb mb v xs st) => drop_calls hW h8 hls x.f4 x.f6
    obtain ⟨r, hr⟩ : ∃ r, drop st x.f4 x.f6 = r := ⟨_, rfl⟩
    rw [hr] at hcall ⊢
    clear hr
    go_enter Try.func15, Try.ntmps15
    go_wp2_with (first | ((with_reducible refine gate_dst (N := 3) rfl ?_); refine sh_E 3 45 (stA x) ?_; intro g hg w1 hbox hb; replace HB := sh_S HB hb; obtain ⟨c0, c1, c2, c3, c4, c5, c6, c7, c8⟩ := MBlk.c9 hbox; have HM := Aside0.mk (h.below hb); clear hbox hb hg) | fail)
    refine Calls.mono (hcall _ HM.out) ?_
    rintro e w' ⟨rfl, hst⟩
    have HS := Aside0.mk (Stepped.pre HB.out hst)
    clear hst
    go_wp2
    go_ret2
    exact ⟨rfl, HS.out⟩
  have e0 : If.step st (spOf x) = ((put st x.f4 x.f6 x.f3).1, 0, (put st x.f4 x.f6 x.f3).2) := by unfold If.step; rw [HQ.out, if_neg q0, if_neg q1, if_neg q5]; rfl
  rw [e0]
  have p0 : (q == 0) = false := by simpa using q0
  have p1 : (q == 1) = false := by simpa using q1
  have p5 : (q == 5) = false := by simpa using q5
  clear e0
  have hcall := fun W (hW : Mem W S sb mb v xs st) => put_calls hW h8 hls x.f4 x.f6 x.f3
  obtain ⟨r, hr⟩ : ∃ r, put st x.f4 x.f6 x.f3 = r := ⟨_, rfl⟩
  rw [hr] at hcall ⊢
  clear hr
  go_enter Try.func15, Try.ntmps15
  go_wp2_with (first | ((with_reducible refine gate_dst (N := 3) rfl ?_); refine sh_E 3 45 (stA x) ?_; intro g hg w1 hbox hb; replace HB := sh_S HB hb; obtain ⟨c0, c1, c2, c3, c4, c5, c6, c7, c8⟩ := MBlk.c9 hbox; have HM := Aside0.mk (h.below hb); clear hbox hb hg) | fail)
  refine Calls.mono (hcall _ HM.out) ?_
  rintro e w' ⟨rfl, hst⟩
  have HS := Aside0.mk (Stepped.pre HB.out hst)
  clear hst
  go_wp2
  go_ret2
  exact ⟨rfl, HS.out⟩
end
def Has (w : World) (B : Nat) (X : Nat → Prop) (sb : Nat) (st : St) : Prop := ∃ S mb v xs, Mem w S sb mb v xs st ∧ ∀ k, S k → B ≤ k ∧ ¬ X k
theorem Has.below {w w1 : World} {B sb : Nat} {X : Nat → Prop} {st : St} (h : Has w B X sb st) (hb : Below w.heap.size w w1) : Has w1 B X sb st := by
  obtain ⟨S, mb, v, xs, h1, h2⟩ := h
  exact ⟨S, mb, v, xs, h1.below hb, h2⟩
theorem Has.drewN {w : World} {B sb : Nat} {X : Nat → Prop} {st : St} (h : Has w B X sb st) (n : Nat) : Has (w.drewN n) B X sb st := by
  obtain ⟨S, mb, v, xs, h1, h2⟩ := h
  exact ⟨S, mb, v, xs, h1.keep (Nat.le_refl _) (fun _ _ => rfl), h2⟩
theorem Has.avoid {w : World} {B sb : Nat} {X : Nat → Prop} {st : St} (h : Has w B X sb st) {g : Nat} (hg : w.heap.size ≤ g) : Has w B (fun k => X k ∨ k = g) sb st := by
  obtain ⟨S, mb, v, xs, h1, h2⟩ := h
  exact ⟨S, mb, v, xs, h1, fun k hk => ⟨(h2 k hk).1, fun q => by
    rcases q with q | q
    · exact (h2 k hk).2 q
    · have := h1.lt k hk; omega⟩⟩
theorem Has.stepped {w w' : World} {B sb mb : Nat} {X S : Nat → Prop} {st' : St} (hS : ∀ k, S k → B ≤ k ∧ ¬ X k) (hX : ∀ k, X k → k < w.heap.size) (hB : B ≤ w.heap.size) (h : Stepped w w' S sb mb st') : Has w' B X sb st' ∧ Below B w w' ∧ ∀ k, X k → w'.heap[k]? = w.heap[k]? := by
  obtain ⟨S', v', xs', h1, h2, h3⟩ := h
  refine ⟨⟨S', mb, v', xs', h1, fun k hk => ?_⟩, h3.below (Below.refl _ _) hB (fun k hk => (hS k hk).1), fun k hk => h3.block k (hX k hk) (fun q => (hS k q).2 hk)⟩
  rcases h2 k hk with q | q
  · exact hS k q
  · exact ⟨by omega, fun z => by have := hX k z; omega⟩
theorem run_snoc (l : List Sp) (x : Sp) : ∀ st : St, If.run st (l ++ [x]) = (If.step (If.run st l) x).1 := by
  induction l with
  | nil => intro st; rfl
  | cons y r ih => intro st; exact ih _
def madeAt (xs : List SI) (i : Nat) : St := If.run [] ((xs.take i).map spOf)
theorem madeAt_succ {xs : List SI} {i : Nat} {x : SI} (h : xs[i]? = some x) : madeAt xs (i + 1) = (If.step (madeAt xs i) (spOf x)).1 := by
  unfold madeAt
  rw [List.take_add_one, h, Option.toList_some, List.map_append, List.map_cons, List.map_nil, run_snoc]
theorem inv_made (xs : List SI) (i : Nat) : Inv (madeAt xs i) := inv_run _ inv_nil
theorem cells9 {w : World} {A : Option Addr} {xs : List SI} (h : Kd.C k45 w A xs.length xs) {i : Nat} {x : SI} (hx : xs[i]? = some x) : ∃ ad, A = some ad ∧ w.cell? (ad.add (i * 9)) = some (.int .i64 x.f0) ∧ w.cell? ⟨(ad.add (i * 9)).block, (ad.add (i * 9)).off + 1, none⟩ = some (.string x.f1) ∧ w.cell? ⟨(ad.add (i * 9)).block, (ad.add (i * 9)).off + 2, none⟩ = some (.int .u64 x.f2) ∧
    w.cell? ⟨(ad.add (i * 9)).block, (ad.add (i * 9)).off + 3, none⟩ = some (.int .i64 x.f3) ∧ w.cell? ⟨(ad.add (i * 9)).block, (ad.add (i * 9)).off + 4, none⟩ = some (.int .i64 x.f4) ∧ w.cell? ⟨(ad.add (i * 9)).block, (ad.add (i * 9)).off + 5, none⟩ = some (.bool x.f5) ∧ w.cell? ⟨(ad.add (i * 9)).block, (ad.add (i * 9)).off + 6, none⟩ = some (.bool x.f6.f0) ∧
    w.cell? ⟨(ad.add (i * 9)).block, (ad.add (i * 9)).off + 7, none⟩ = some (.int .u64 x.f6.f1) ∧ w.cell? ⟨(ad.add (i * 9)).block, (ad.add (i * 9)).off + 8, none⟩ = some (.int .u64 x.f6.f2) := by
  obtain ⟨ad, e, h0, h1⟩ := at_step h hx
  exact ⟨ad, e, h0, h1 1 _ (by decide) rfl, h1 2 _ (by decide) rfl, h1 3 _ (by decide) rfl, h1 4 _ (by decide) rfl, h1 5 _ (by decide) rfl, h1 6 _ (by decide) rfl, h1 7 _ (by decide) rfl, h1 8 _ (by decide) rfl⟩
set_option maxHeartbeats 2000000 in
set_option maxRecDepth 100000 in
theorem made_calls (w : World) (A : Option Addr) (c : Nat) (xs : List SI) (hC : Kd.C k45 w A xs.length xs) (hl : xs.length ≤ 140737488355328) (hfit : ∀ x ∈ xs, Fit x) :
    Calls Try.prog 9 #[.slice A xs.length c] w fun e w' => ∃ sb, e = .returned (.pointer (some ⟨sb, 0, none⟩)) ∧ Has w' w.heap.size (fun _ => False) sb (madeAt xs 60) ∧ Below w.heap.size w w' := by
  have HC := Aside0.mk hC
  clear hC
  go_enter Try.func9, Try.ntmps9
  go_wp2_with fail
  refine Calls.mono (new_calls w) ?_
  rintro e w1 ⟨sb, mb, S, rfl, hm, hS, hb⟩
  have HH := Aside0.mk (show Has w1 w.heap.size (fun _ => False) sb (madeAt xs 0) from ⟨S, mb, _, _, hm, fun k hk => ⟨hS k hk, fun q => q⟩⟩)
  have HB := Aside0.mk hb
  clear hm hS hb
  go_wp2_with fail
  go_loopg [4] (min xs.length 60) (fun kq v4 w' => ∃ (j : Nat), v4 = .int .i64 (j : Int) ∧ Aside0 (j + kq = min xs.length 60) ∧ Aside0 (Has w' w.heap.size (fun _ => False) sb (madeAt xs j)) ∧ Aside0 (Below w.heap.size w w'))
  case atStart => exact ⟨0, rfl, ⟨by omega⟩, HH, HB⟩
  case round =>
    clear HH HB
    obtain ⟨j, rfl, HJ, HH, HB⟩ := hrel
    have hj0 := HJ.out
    by_cases hj : j < xs.length
    · by_cases h60 : j < 60
      · obtain ⟨x, hx⟩ : ∃ x, xs[j]? = some x := ⟨_, List.getElem?_eq_getElem hj⟩
        obtain ⟨ad, e, x0, x1, x2, x3, x4, x5, x6, x7, x8⟩ := cells9 (Kd.C_below HC.out HB.out) hx
        subst e
        have HX := Aside0.mk hx
        have hfx := hfit x (List.mem_of_getElem? hx)
        obtain ⟨S, mb, v, ps, hm, hS⟩ := HH.out
        have HD := Aside0.mk (do_calls hm (inv_made xs j) x hfx)
        obtain ⟨r, hr⟩ : ∃ r, If.step (madeAt xs j) (spOf x) = r := ⟨_, rfl⟩
        have HR := Aside0.mk hr
        rw [hr] at HD
        have HS := Aside0.mk hS
        obtain ⟨y, hy⟩ : ∃ y : Int, (j : Int) = y := ⟨_, rfl⟩
        have hyn : y.toNat = j := by omega
        rw [← hyn] at x0 x1 x2 x3 x4 x5 x6 x7 x8
        rw [hy]
        have HY := Aside0.mk hy
        have b1 : decide (y < (xs.length : Int)) = true := decide_eq_true (by omega)
        have b2 : decide (y < 60) = true := decide_eq_true (by omega)
        have p1 : (0 ≤ y) = True := eq_true (by omega)
        have q1 : (y < (xs.length : Int)) = True := eq_true (by omega)
        have hn : wrap64 (y + 1) = ((j + 1 : Nat) : Int) := by unfold wrap64; omega
        have HN := Aside0.mk hn
        obtain ⟨gk, rfl⟩ : ∃ q, gk = q + 1 := ⟨gk - 1, by omega⟩
        clear hx hfx hm hS hr hy hn hj h60 hj0 hyn hfit
        go_wp2_with fail
        refine Calls.mono HD.out ?_
        rintro e w' ⟨rfl, hst⟩
        obtain ⟨t1, t2, _⟩ := Has.stepped (B := w.heap.size) (X := fun _ => False) HS.out (fun k q => q.elim) HB.out.size hst
        have HH2 := Aside0.mk t1
        have HB2 := Aside0.mk (HB.out.trans t2)
        clear hst t1 t2
        go_wp2
        go_roundg gk
        case measure => omega
        case rel => exact ⟨j + 1, by first | rw [HN.out] | exact congrArg _ (by have := HY.out; omega), ⟨by have := HJ.out; omega⟩, ⟨by rw [madeAt_succ HX.out, HR.out]; exact HH2.out⟩, HB2⟩
      · have hj60 : j = 60 := by omega
        subst hj60
        have b1 : decide ((60 : Int) < (xs.length : Int)) = true := decide_eq_true (by omega)
        have hlt : (60 : Int) < (xs.length : Int) := by omega
        clear hj h60 hj0 HJ hfit
        go_wp2
        go_ret
        exact ⟨sb, rfl, HH.out, HB.out⟩
    · have hm : madeAt xs 60 = madeAt xs j := by
        unfold madeAt
        rw [List.take_of_length_le (by omega), List.take_of_length_le (by omega)]
      have HM := Aside0.mk hm
      obtain ⟨y, hy⟩ : ∃ y : Int, (j : Int) = y := ⟨_, rfl⟩
      have b1 : decide (y < (xs.length : Int)) = false := decide_eq_false (by omega)
      rw [hy]
      clear hj hm hy hj0 hfit
      go_wp2
      go_ret
      exact ⟨sb, rfl, by rw [HM.out]; exact HH.out, HB.out⟩
end Go.Proofs.Ytefbcigccfkkgaa.WIf
namespace Go.Proofs.Ytefbcigccfkkgaa.WIf
open Go.RowKit Go.Maps Go.WideMaps Go.Proofs.Ytefbcigccfkkgaa.PBase Go.Proofs.YtefbcigccfkkgaaW.PrintWords Go.Proofs.YtefbcigccfkkgaaW.PrintLast Go.Proofs.YtefbcigccfkkgaaW.PrintMore Go.Proofs.Ytefbcigccfkkgaa.If
attribute [local go_sem] max2_int min2_int max_two min_two
attribute [local go_sem high] eqA25
section
variable {w : World} {B sb : Nat} {X : Nat → Prop} {st : St}
def Left (w w' : World) (B : Nat) (X : Nat → Prop) (sb : Nat) (st : St) : Prop := Has w' B X sb st ∧ Below B w w' ∧ ∀ k, X k → w'.heap[k]? = w.heap[k]?
theorem has_add (h : Has w B X sb st) (hI : Inv st) (hB : B ≤ w.heap.size) (hX : ∀ k, X k → k < w.heap.size) (s : ByteArray) (hs : s.size ≤ maxLen) (mac mtu : Int) (h0 : 0 ≤ mac) (h1 : mac < 18446744073709551616) :
    Calls Try.prog 24 #[.pointer (some ⟨sb, 0, none⟩), .string s, .int .u64 mac, .int .i64 mtu] w fun e w' => e = .returned (.tuple #[.int .i64 (add st s mac mtu).2.1, .int .i64 (add st s mac mtu).2.2]) ∧ Left w w' B X sb (add st s mac mtu).1 := by
  obtain ⟨S, mb, v, xs, hm, hS⟩ := h
  exact Calls.mono (add_calls hm hI.few s hs mac mtu h0 h1) (fun _ _ q => ⟨q.1, Has.stepped hS hX hB q.2⟩)
theorem has_put (h : Has w B X sb st) (hI : Inv st) (hB : B ≤ w.heap.size) (hX : ∀ k, X k → k < w.heap.size) (n : Int) (a : Ad) (bits : Int) :
    Calls Try.prog 25 #[.pointer (some ⟨sb, 0, none⟩), .int .i64 n, .agg (adA a), .int .i64 bits] w fun e w' => e = .returned (.int .i64 (put st n a bits).2) ∧ Left w w' B X sb (put st n a bits).1 := by
  obtain ⟨S, mb, v, xs, hm, hS⟩ := h
  exact Calls.mono (put_calls hm hI.few (Inv.ls8 hI) n a bits) (fun _ _ q => ⟨q.1, Has.stepped hS hX hB q.2⟩)
theorem has_turn (h : Has w B X sb st) (hI : Inv st) (hB : B ≤ w.heap.size) (hX : ∀ k, X k → k < w.heap.size) (n : Int) (up : Bool) :
    Calls Try.prog 21 #[.pointer (some ⟨sb, 0, none⟩), .int .i64 n, .bool up] w fun e w' => e = .returned (.int .i64 (turn st n up).2) ∧ Left w w' B X sb (turn st n up).1 := by
  obtain ⟨S, mb, v, xs, hm, hS⟩ := h
  exact Calls.mono (turn_calls hm hI.few n up) (fun _ _ q => ⟨q.1, Has.stepped hS hX hB (Stepped.turned q.2)⟩)
theorem has_do (h : Has w B X sb st) (hI : Inv st) (hB : B ≤ w.heap.size) (hX : ∀ k, X k → k < w.heap.size) (x : SI) (hx : Fit x) :
    Calls Try.prog 15 #[.pointer (some ⟨sb, 0, none⟩), .agg (stA x)] w fun e w' => e = .returned (.tuple #[.int .i64 (If.step st (spOf x)).2.1, .int .i64 (If.step st (spOf x)).2.2]) ∧ Left w w' B X sb (If.step st (spOf x)).1 := by
  obtain ⟨S, mb, v, xs, hm, hS⟩ := h
  exact Calls.mono (do_calls hm hI x hx) (fun _ _ q => ⟨q.1, Has.stepped hS hX hB q.2⟩)
theorem has_mine (h : Has w B X sb st) (hI : Inv st) (a : Ad) :
    Calls Try.prog 12 #[.pointer (some ⟨sb, 0, none⟩), .agg (adA a)] w fun e w' => e = .returned (.int .i64 (mine st a)) ∧ Below w.heap.size w w' := by
  obtain ⟨S, mb, v, xs, hm, hS⟩ := h
  exact mine_calls hm hI.few (Inv.ls8 hI) a
theorem has_near (h : Has w B X sb st) (hI : Inv st) (a : Ad) :
    Calls Try.prog 20 #[.pointer (some ⟨sb, 0, none⟩), .agg (adA a)] w fun e w' => e = .returned (.tuple #[.int .i64 (near st a), .bool (decide (near st a > 0))]) ∧ Below w.heap.size w w' := by
  obtain ⟨S, mb, v, xs, hm, hS⟩ := h
  exact near_calls hm hI.few (Inv.ls8 hI) a
theorem has_source (h : Has w B X sb st) (hI : Inv st) (n : Int) (a : Ad) :
    Calls Try.prog 10 #[.pointer (some ⟨sb, 0, none⟩), .int .i64 n, .agg (adA a)] w fun e w' => e = .returned (.tuple #[.agg (adA (source st n a).1), .bool (source st n a).2]) ∧ Below w.heap.size w w' := by
  obtain ⟨S, mb, v, xs, hm, hS⟩ := h
  exact source_calls hm hI.few (Inv.ls8 hI) n a
theorem has_named (h : Has w B X sb st) (s : ByteArray) (hs : s.size ≤ maxLen) :
    Calls Try.prog 19 #[.pointer (some ⟨sb, 0, none⟩), .string s] w fun e w' => e = .returned (.int .i64 (named st s)) ∧ w = w' := by
  obtain ⟨S, mb, v, xs, hm, hS⟩ := h
  exact named_calls hm s hs
theorem has_port (h : Has w B X sb st) (hI : Inv st) (n : Int) :
    Calls Try.prog 18 #[.pointer (some ⟨sb, 0, none⟩), .int .i64 n] w fun e w' => e = .returned (.tuple #[.agg #[.string (portR st n).1.f0, .int .u64 (portR st n).1.f1, .int .i64 (portR st n).1.f2, .bool (portR st n).1.f3], .bool (portR st n).2]) ∧ Below w.heap.size w w' := by
  obtain ⟨S, mb, v, xs, hm, hS⟩ := h
  exact port_calls hm hI.few n
theorem has_locals (h : Has w B X sb st) (hI : Inv st) (n : Int) :
    Calls Try.prog 11 #[.pointer (some ⟨sb, 0, none⟩), .int .i64 n] w fun e w' => (∃ A c, e = .returned (.slice A (locals st n).length c) ∧ k34.C w' A (locals st n).length (locals st n) ∧ RL w' (.slice A (locals st n).length c) (locals st n) ∧ ∀ k, (Value.slice A (locals st n).length c).ownBlock = some k → w.heap.size ≤ k) ∧ Below w.heap.size w w' := by
  obtain ⟨S, mb, v, xs, hm, hS⟩ := h
  refine Calls.mono (locals_calls hm hI.few (Inv.ls8 hI) n) ?_
  rintro e w' ⟨v', rfl, h1, h2, h3⟩
  obtain ⟨A, c, rfl, hC⟩ := RL.reads h1
  exact ⟨⟨A, c, rfl, hC, h1, h2⟩, h3⟩
theorem Left.lt {w w' : World} (h : Left w w' B X sb st) (hX : ∀ k, X k → k < w.heap.size) (hB : B ≤ w.heap.size) : (∀ k, X k → k < w'.heap.size) ∧ B ≤ w'.heap.size := ⟨fun k hk => Nat.lt_of_lt_of_le (hX k hk) h.2.1.size, Nat.le_trans hB h.2.1.size⟩
end
def eth0 : ByteArray := ⟨#[101, 116, 104, 48]⟩
def eth1 : ByteArray := ⟨#[101, 116, 104, 49]⟩
def aA : Ad := ⟨false, 0, 167772161⟩
def aB : Ad := ⟨false, 0, 167772169⟩
def aC : Ad := ⟨false, 0, 184549377⟩
def s1 : St := [⟨eth0, 2, 1500, false, []⟩]
def s2 : St := [⟨eth0, 2, 1500, false, [⟨aA, 24⟩]⟩]
def s3 : St := [⟨eth0, 2, 1500, true, [⟨aA, 24⟩]⟩]
theorem w1_ : add [] eth0 2 1500 = (s1, 1, 0) := by kernel_rfl
theorem w2_ : add s1 eth0 4 1500 = (s1, 0, 130) := by kernel_rfl
theorem w3_ : add s1 eth1 3298534883328 1500 = (s1, 0, 1) := by kernel_rfl
theorem w4_ : put s1 1 aA 24 = (s2, 0) := by kernel_rfl
theorem w5_ : put s2 1 aA 16 = (s2, 133) := by kernel_rfl
theorem w6_ : near s2 aB = 0 := by kernel_rfl
theorem w7_ : turn s2 1 true = (s3, 0) := by kernel_rfl
theorem w8_ : near s3 aB = 1 := by kernel_rfl
theorem w9_ : source s3 1 aC = (aA, true) := by kernel_rfl
theorem w10_ : mine s3 aA = 1 := by kernel_rfl
theorem w11_ : named s3 eth0 = 1 := by kernel_rfl
theorem w12_ : locals s3 1 = [⟨aA, 24⟩] := by kernel_rfl
theorem i1_ : Inv s1 := by have := inv_add inv_nil eth0 2 1500; rwa [w1_] at this
theorem i2_ : Inv s2 := by have := inv_put i1_ 1 aA 24; rwa [w4_] at this
theorem i3_ : Inv s3 := by have := inv_turn i2_ 1 true; rwa [w7_] at this
set_option maxHeartbeats 4000000 in
set_option maxRecDepth 100000 in
theorem awake_calls (w : World) : Calls Try.prog 8 #[] w fun e w' => e = .returned (.bool true) ∧ Below w.heap.size w w' := by
  have hu25 := Try.underlying25
  go_enter Try.func8, Try.ntmps8
  go_wp2_with fail
  refine Calls.mono (new_calls w) ?_
  rintro e w1 ⟨sb, mb, S, rfl, hm, hS, hb⟩
  have HH := Aside0.mk (show Has w1 w.heap.size (fun _ => False) sb [] from ⟨S, mb, _, _, hm, fun k hk => ⟨hS k hk, fun q => q⟩⟩)
  have HB := Aside0.mk hb
  clear hm hS hb
  go_wp2_with (first | ((with_reducible refine gate_dst (N := 2) rfl ?_); refine sh_E 2 25 (adA zeroA) ?_; intro g hg w2 hbox hb; have HG := Aside0.mk hg; have BK := Aside0.mk hbox; have HBB := Aside0.mk hb; obtain ⟨c0, c1, c2⟩ := MBlk.c3 hbox; obtain ⟨f0, f1, f2⟩ := MBlk.f3 hbox; clear hbox hb hg) | fail)
  have hbk := put3 (b0 := .bool false) (b1 := .int .u64 0) (b2 := .int .u64 167772161) BK.out
  have hbb : Below w1.heap.size w1 (((w2.setCell ⟨g, 0, none⟩ (.bool false)).setCell ⟨g, 1, none⟩ (.int .u64 0)).setCell ⟨g, 2, none⟩ (.int .u64 167772161)) := below3 HBB.out (by have := HG.out; omega)
  have hav := (HH.out.avoid (g := g) (by have := HG.out; omega)).below hbb
  have hbn := below_step HB.out hbb
  clear BK HBB HG HH HB hbb f0 f1 f2 c0 c1 c2
  generalize (((w2.setCell ⟨g, 0, none⟩ (.bool false)).setCell ⟨g, 1, none⟩ (.int .u64 0)).setCell ⟨g, 2, none⟩ (.int .u64 167772161)) = W at hbk hav hbn ⊢
  have HH := Aside0.mk hav
  have HB := Aside0.mk hbn
  have BK := Aside0.mk (show W.heap[g]? = some (.cells (adA aA) 25 (0, 0)) from hbk)
  have hX : ∀ V : World, V.heap[g]? = some (.cells (adA aA) 25 (0, 0)) → ∀ k, (False ∨ k = g) → k < V.heap.size := fun V hV k hk => by
    rcases hk with q | q
    · exact q.elim
    · rw [q]; exact blk_lt hV
  clear hbk hav hbn
  have hc := has_add HH.out inv_nil HB.out.size (hX _ BK.out) eth0 (by decide) 2 1500 (by decide) (by decide)
  rw [w1_] at hc
  refine Calls.mono hc ?_
  rintro e w3 ⟨rfl, hh, hb, hk⟩
  replace HH := Aside0.mk hh
  replace HB := Aside0.mk (HB.out.trans hb)
  replace BK := Aside0.mk ((hk g (.inr rfl)).trans BK.out)
  clear hc hh hb hk
  obtain ⟨c0, c1, c2⟩ := MBlk.c3 BK.out
  go_wp2_with fail
  have hc := has_add HH.out i1_ HB.out.size (hX _ BK.out) eth0 (by decide) 4 1500 (by decide) (by decide)
  rw [w2_] at hc
  refine Calls.mono hc ?_
  rintro e w4 ⟨rfl, hh, hb, hk⟩
  replace HH := Aside0.mk hh
  replace HB := Aside0.mk (HB.out.trans hb)
  replace BK := Aside0.mk ((hk g (.inr rfl)).trans BK.out)
  clear hc hh hb hk
  obtain ⟨c0, c1, c2⟩ := MBlk.c3 BK.out
  go_wp2_with fail
  have hc := has_add HH.out i1_ HB.out.size (hX _ BK.out) eth1 (by decide) 3298534883328 1500 (by decide) (by decide)
  rw [w3_] at hc
  refine Calls.mono hc ?_
  rintro e w5 ⟨rfl, hh, hb, hk⟩
  replace HH := Aside0.mk hh
  replace HB := Aside0.mk (HB.out.trans hb)
  replace BK := Aside0.mk ((hk g (.inr rfl)).trans BK.out)
  clear hc hh hb hk
  obtain ⟨c0, c1, c2⟩ := MBlk.c3 BK.out
  go_wp2_with fail
  have hc := has_put HH.out i1_ HB.out.size (hX _ BK.out) 1 aA 24
  rw [w4_] at hc
  refine Calls.mono hc ?_
  rintro e w6 ⟨rfl, hh, hb, hk⟩
  replace HH := Aside0.mk hh
  replace HB := Aside0.mk (HB.out.trans hb)
  replace BK := Aside0.mk ((hk g (.inr rfl)).trans BK.out)
  clear hc hh hb hk
  obtain ⟨c0, c1, c2⟩ := MBlk.c3 BK.out
  go_wp2_with fail
  have hc := has_put HH.out i2_ HB.out.size (hX _ BK.out) 1 aA 16
  rw [w5_] at hc
  refine Calls.mono hc ?_
  rintro e w7 ⟨rfl, hh, hb, hk⟩
  replace HH := Aside0.mk hh
  replace HB := Aside0.mk (HB.out.trans hb)
  replace BK := Aside0.mk ((hk g (.inr rfl)).trans BK.out)
  clear hc hh hb hk
  obtain ⟨c0, c1, c2⟩ := MBlk.c3 BK.out
  go_wp2_with fail
  have hc := has_near HH.out i2_ aB
  rw [w6_] at hc
  refine Calls.mono hc ?_
  rintro e w8 ⟨rfl, hb⟩
  replace HH := Aside0.mk (HH.out.below hb)
  replace HB := Aside0.mk (below_step HB.out hb)
  replace BK := Aside0.mk (blk_below BK.out hb)
  clear hc hb
  obtain ⟨c0, c1, c2⟩ := MBlk.c3 BK.out
  go_wp2_with fail
  have hc := has_turn HH.out i2_ HB.out.size (hX _ BK.out) 1 true
  rw [w7_] at hc
  refine Calls.mono hc ?_
  rintro e w9 ⟨rfl, hh, hb, hk⟩
  replace HH := Aside0.mk hh
  replace HB := Aside0.mk (HB.out.trans hb)
  replace BK := Aside0.mk ((hk g (.inr rfl)).trans BK.out)
  clear hc hh hb hk
  obtain ⟨c0, c1, c2⟩ := MBlk.c3 BK.out
  go_wp2_with fail
  have hc := has_near HH.out i3_ aB
  rw [w8_] at hc
  refine Calls.mono hc ?_
  rintro e w10 ⟨rfl, hb⟩
  replace HH := Aside0.mk (HH.out.below hb)
  replace HB := Aside0.mk (below_step HB.out hb)
  replace BK := Aside0.mk (blk_below BK.out hb)
  clear hc hb
  obtain ⟨c0, c1, c2⟩ := MBlk.c3 BK.out
  go_wp2_with fail
  have hc := has_source HH.out i3_ 1 aC
  rw [w9_] at hc
  refine Calls.mono hc ?_
  rintro e w11 ⟨rfl, hb⟩
  replace HH := Aside0.mk (HH.out.below hb)
  replace HB := Aside0.mk (below_step HB.out hb)
  replace BK := Aside0.mk (blk_below BK.out hb)
  clear hc hb
  obtain ⟨c0, c1, c2⟩ := MBlk.c3 BK.out
  go_upto_region 14 with (first | ((with_reducible refine gate_dst (N := 16) rfl ?_); refine sh_E 16 25 (adA zeroA) ?_; intro g6 hg V1 hbox hb; have HG := Aside0.mk hg; have BK6 := Aside0.mk hbox; have HBB := Aside0.mk hb; obtain ⟨d0, d1, d2⟩ := MBlk.c3 hbox; obtain ⟨f0, f1, f2⟩ := MBlk.f3 hbox; clear hbox hb hg) | fail)
  have hbk := put3 (b0 := .bool aA.f0) (b1 := .int .u64 aA.f1) (b2 := .int .u64 aA.f2) BK6.out
  have hbb : Below w11.heap.size w11 (((V1.setCell ⟨g6, 0, none⟩ (.bool aA.f0)).setCell ⟨g6, 1, none⟩ (.int .u64 aA.f1)).setCell ⟨g6, 2, none⟩ (.int .u64 aA.f2)) := below3 HBB.out (by have := HG.out; omega)
  clear BK6 HBB HG f0 f1 f2 d0 d1 d2 c0 c1 c2
  generalize (((V1.setCell ⟨g6, 0, none⟩ (.bool aA.f0)).setCell ⟨g6, 1, none⟩ (.int .u64 aA.f1)).setCell ⟨g6, 2, none⟩ (.int .u64 aA.f2)) = V2 at hbk hbb ⊢
  replace HH := Aside0.mk (HH.out.below hbb)
  replace HB := Aside0.mk (below_step HB.out hbb)
  replace BK := Aside0.mk (blk_below BK.out hbb)
  have BK6 := Aside0.mk hbk
  clear hbb hbk
  obtain ⟨c0, c1, c2⟩ := MBlk.c3 BK.out
  obtain ⟨d0, d1, d2⟩ := MBlk.c3 BK6.out
  go_wp2_with fail
  have hc := has_mine HH.out i3_ aA
  rw [w10_] at hc
  refine Calls.mono hc ?_
  rintro e V3 ⟨rfl, hb⟩
  replace HH := Aside0.mk (HH.out.below hb)
  replace HB := Aside0.mk (below_step HB.out hb)
  replace BK := Aside0.mk (blk_below BK.out hb)
  replace BK6 := Aside0.mk (blk_below BK6.out hb)
  clear hc hb c0 c1 c2 d0 d1 d2
  obtain ⟨c0, c1, c2⟩ := MBlk.c3 BK.out
  obtain ⟨d0, d1, d2⟩ := MBlk.c3 BK6.out
  go_wp2_with fail
  have hc := has_named HH.out eth0 (by decide)
  rw [w11_] at hc
  refine Calls.mono hc ?_
  rintro e V4 ⟨rfl, rfl⟩
  clear hc
  go_wp2_with fail
  have hc := has_locals HH.out i3_ 1
  rw [w12_] at hc
  refine Calls.mono hc ?_
  rintro e V5 ⟨⟨A, cc, rfl, _⟩, hb⟩
  replace HB := Aside0.mk (below_step HB.out hb)
  clear hc hb c0 c1 c2 d0 d1 d2
  go_wp2
  go_ret
  exact ⟨rfl, HB.out⟩
def GSI (x : SI) : Prop := (Lit.int .i64 x.f0).wf = true ∧ x.f1.size ≤ 140737488351232 ∧ (Lit.int .u64 x.f2).wf = true ∧ (Lit.int .i64 x.f3).wf = true ∧ (Lit.int .i64 x.f4).wf = true ∧ True ∧ True ∧ (Lit.int .u64 x.f6.f1).wf = true ∧ (Lit.int .u64 x.f6.f2).wf = true
theorem wf_u64 {x : Int} (h : (Lit.int .u64 x).wf = true) : 0 ≤ x ∧ x < 18446744073709551616 := by
  have h2 : (decide ((0 : Int) ≤ x) && decide (x ≤ 18446744073709551615)) = true := h
  rw [Bool.and_eq_true, decide_eq_true_eq, decide_eq_true_eq] at h2
  omega
theorem fit_of {x : SI} (h : GSI x) : Fit x := ⟨(wf_u64 h.2.2.1).1, (wf_u64 h.2.2.1).2, by have := h.2.1; unfold maxLen; omega⟩
end Go.Proofs.Ytefbcigccfkkgaa.WIf
