/-
  The calls of a set of ports in memory, third part: whose an address is. Conditions: those of each theorem.
-/
import Derived.Test.YtefbcigccfkkgaaWIface2
set_option linter.unusedVariables false
set_option linter.unusedSimpArgs false
namespace Go.Proofs.Ytefbcigccfkkgaa.WIf
open Go.RowKit Go.Maps Go.WideMaps Go.Proofs.Ytefbcigccfkkgaa.PBase Go.Proofs.YtefbcigccfkkgaaW.PrintWords Go.Proofs.YtefbcigccfkkgaaW.PrintLast Go.Proofs.YtefbcigccfkkgaaW.PrintMore Go.Proofs.Ytefbcigccfkkgaa.If
attribute [local go_sem] max2_int min2_int max_two min_two
theorem mine_drop_ {st : St} {a : Ad} : ∀ {i : Nat}, (∀ j p, j < i → st[j]? = some p → place p.ls a = none) → mineN st a = (mineN (st.drop i) a).map (· + i) := by
  intro i
  induction i generalizing st with
  | zero => intro _; cases h : mineN st a <;> simp [h]
  | succ i ih =>
    intro h
    cases st with
    | nil => rfl
    | cons l r =>
      have h0 := h 0 l (by omega) rfl
      have := ih (st := r) (fun j m hj hm => h (j + 1) m (by omega) (by simpa using hm))
      rw [mine_cons, if_neg (by rw [h0]; decide), this, List.drop_succ_cons, Option.map_map]
      refine congrArg (fun f => Option.map f _) (funext fun x => ?_)
      simp only [Function.comp]; omega
section
variable {w : World} {S : Nat → Prop} {sb mb : Nat} {v : Value} {xs : List PS} {st : St}
set_option maxHeartbeats 1000000 in
set_option maxRecDepth 100000 in
theorem mine_calls (h : Mem w S sb mb v xs st) (h8 : st.length ≤ 8) (hls : ∀ p ∈ st, p.ls.length ≤ 8) (a : Ad) :
    Calls Try.prog 12 #[.pointer (some ⟨sb, 0, none⟩), .agg #[.bool a.f0, .int .u64 a.f1, .int .u64 a.f2]] w fun e w' => e = .returned (.int .i64 (mine st a)) ∧ Below w.heap.size w w' := by
  have hu25 := Try.underlying25
  have HB := Aside0.mk (Below.refl w.heap.size w)
  obtain ⟨A, c, ev⟩ := h.row.slice
  rw [h.len] at ev
  subst ev
  obtain ⟨s0, s1⟩ := MBlk.c2 h.blk
  go_enter Try.func12, Try.ntmps12
  go_wp2_with (first | ((with_reducible refine gate_dst (N := 3) rfl ?_); refine sh_E 3 25 #[.bool a.f0, .int .u64 a.f1, .int .u64 a.f2] ?_; intro g hg w1 hbox hb; replace HB := sh_S HB hb; have BK := Aside0.mk hbox; have HM := Aside0.mk (h.below hb); replace s0 := pw_cell_below hb s0; replace s1 := pw_cell_below hb s1; clear hbox hb hg) | fail)
  go_loopg [5, 11] st.length (fun kq v5 v11 w' => ∃ i : Nat, v11 = .int .i64 (i : Int) ∧ i + kq = st.length ∧ (∀ j p, j < i → st[j]? = some p → place p.ls a = none) ∧ Aside0 (Below w1.heap.size w1 w'))
  case atStart => exact ⟨0, rfl, by omega, fun j l hj => by omega, ⟨Below.refl _ _⟩⟩
  case round =>
    obtain ⟨i, rfl, hik, hno, HC⟩ := hrel
    by_cases hi : i < st.length
    · have HM2 := Aside0.mk (HM.out.below HC.out)
      obtain ⟨pb, c', e⟩ := HM.out.row.shape (by rw [HM.out.len]; omega)
      injection e with e1 e2 e3
      subst e1
      subst e3
      clear e2
      obtain ⟨p, hp⟩ : ∃ p, st[i]? = some p := ⟨_, List.getElem?_eq_getElem hi⟩
      obtain ⟨y, hy⟩ : ∃ y, xs[i]? = some y := ⟨_, List.getElem?_eq_getElem (by rw [h.len]; exact hi)⟩
      obtain ⟨_, hrl⟩ := HM2.out.like i p y hp hy
      have hcl := (HM2.out.row.cell hy (j := 4) rfl).1
      have r0 := pw_cell_below HC.out s0
      obtain ⟨c0, c1, c2⟩ := MBlk.c3 (blk_below BK.out HC.out)
      have hp8 := hls p (List.mem_of_getElem? hp)
      have hd := mine_drop_ hno
      rw [List.drop_eq_getElem_cons hi, show st[i] = p from Option.some.inj ((List.getElem?_eq_getElem hi).symm.trans hp), mine_cons] at hd
      obtain ⟨x, hx⟩ : ∃ x : Int, (i : Int) = x := ⟨_, rfl⟩
      have hxi : x.toNat = i := by omega
      rw [hx]
      have b1 : decide (x < (st.length : Int)) = true := decide_eq_true (by omega)
      have p1 : (0 ≤ x) = True := eq_true (by omega)
      have q1 : (x < (st.length : Int)) = True := eq_true (by omega)
      obtain ⟨gk, rfl⟩ : ∃ q, gk = q + 1 := ⟨gk - 1, by omega⟩
      have hpc := place_calls wr.drew pb i (sv y.l) p.ls (RL.keep hrl (fun _ _ => rfl)) hp8 (show wr.drew.cell? _ = _ from hcl) a
      obtain ⟨z, hz⟩ : ∃ z, idx p.ls a = z := ⟨_, rfl⟩
      rw [hz] at hpc
      have hcl2 : wr.cell? ⟨pb, x.toNat * 5 + 4, none⟩ = some (sv y.l) := by rw [hxi]; exact hcl
      go_wp2_with fail
      go_region_held3 (fun w2 => w2.cell? ⟨sb, 0, none⟩ = some (.slice (some ⟨pb, 0, none⟩) st.length c) ∧ w2.cell? ⟨g, 0, none⟩ = some (.bool a.f0) ∧ w2.cell? ⟨g, 1, none⟩ = some (.int .u64 a.f1) ∧ w2.cell? ⟨g, 2, none⟩ = some (.int .u64 a.f2) ∧ w2.cell? ⟨pb, x.toNat * 5 + 4, none⟩ = some (sv y.l) ∧ RL w2 (sv y.l) p.ls) (first | (exact ⟨r0, c0, c1, c2, hcl2, hrl⟩) | (exact ⟨pw_cell_below HD.out r0, pw_cell_below HD.out c0, pw_cell_below HD.out c1, pw_cell_below HD.out c2, pw_cell_below HD.out hcl2, RL.keep hrl (fun k hk => HD.out.block k (RL.lt hrl k hk))⟩) | (go_keep; done)) (first | (go_at_call 30; refine Calls.mono hpc ?_; rintro e w2 ⟨rfl, hb⟩; have HC2 := Aside0.mk (below_step (below_drew1 HC.out) hb); have HD := Aside0.mk (show Below wr.heap.size wr w2 from ⟨hb.os, hb.tape, hb.output, hb.size, hb.block⟩); clear hb) | fail)
      cases hq : place p.ls a with
      | some k =>
        have hzk : z = k := by rw [← hz]; unfold idx; rw [hq]
        have hix : decide (0 ≤ z) = true := decide_eq_true (by omega)
        clear hzk
        rw [hq, if_pos (show (some k).isSome = true from rfl)] at hd
        have hv : mine st a = x + 1 := by unfold mine num; rw [hd]; simp only [Option.map_some]; omega
        have hw : wrap64 (x + 1) = x + 1 := by unfold wrap64; omega
        simp only [hix]
        go_wp2
        go_ret
        rw [hv]
        exact ⟨by first | rfl | (rw [← hw]; rfl), below_then HB.out HB.out.size HC2.out⟩
      | none =>
        have hzk : z = -1 := by rw [← hz]; unfold idx; rw [hq]
        have hix : decide (0 ≤ z) = false := decide_eq_false (by omega)
        clear hzk
        have hix2 : (0 ≤ z) = False := eq_false (of_decide_eq_false hix)
        have hn : wrap64 (x + 1) = ((i + 1 : Nat) : Int) := by unfold wrap64; omega
        simp only [hix]
        go_wp2
        go_roundg gk
        case measure => omega
        case rel => exact ⟨i + 1, by first | rw [hn] | exact congrArg _ (by omega), by omega, fun j m hj hm => by
          rcases Nat.lt_or_ge j i with q | q
          · exact hno j m q hm
          · obtain rfl : j = i := by omega
            rw [hp] at hm
            obtain rfl := Option.some.inj hm
            exact hq, HC2⟩
    · have hd : mineN st a = none := mine_none.2 (fun p hp l hl e => by
        obtain ⟨j, hj⟩ := List.mem_iff_getElem?.1 hp
        have := (List.getElem?_eq_some_iff.1 hj).1
        exact place_none.1 (hno j p (by omega) hj) l hl e)
      have hv : mine st a = 0 := by unfold mine num; rw [hd]
      obtain ⟨x, hx⟩ : ∃ x : Int, (i : Int) = x := ⟨_, rfl⟩
      have b1 : decide (x < (st.length : Int)) = false := decide_eq_false (by omega)
      rw [hx]
      clear hd hno hx hi
      go_wp2
      go_ret
      rw [hv]
      exact ⟨rfl, below_then HB.out HB.out.size HC.out⟩
end
end Go.Proofs.Ytefbcigccfkkgaa.WIf
