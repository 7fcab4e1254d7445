/-
  The calls of a set of ports in memory, second part: where an address stands. Conditions: those of each theorem.
-/
import Derived.Test.YtefbcigccfkkgaaWIface1
set_option linter.unusedVariables false
set_option linter.unusedSimpArgs false
namespace Go.Proofs.Ytefbcigccfkkgaa.WIf
open Go.RowKit Go.Maps Go.WideMaps Go.Proofs.Ytefbcigccfkkgaa.PBase Go.Proofs.YtefbcigccfkkgaaW.PrintWords Go.Proofs.YtefbcigccfkkgaaW.PrintLast Go.Proofs.YtefbcigccfkkgaaW.PrintMore Go.Proofs.Ytefbcigccfkkgaa.If
attribute [local go_sem] max2_int min2_int max_two min_two
attribute [local go_sem high] eqA25
set_option maxHeartbeats 1000000 in
set_option maxRecDepth 100000 in
theorem eqf_calls (w : World) (l : Lo) (a : Ad) (cb : Nat) (h0 : w.cell? ⟨cb, 0, none⟩ = some (.bool a.f0)) (h1 : w.cell? ⟨cb, 1, none⟩ = some (.int .u64 a.f1)) (h2 : w.cell? ⟨cb, 2, none⟩ = some (.int .u64 a.f2)) :
    Calls Try.prog 50 #[.agg #[.bool l.f0.f0, .int .u64 l.f0.f1, .int .u64 l.f0.f2, .int .i64 l.f1], .pointer (some ⟨cb, 0, none⟩)] w fun e w' => e = .returned (.bool (eqA l.f0 a)) ∧ Below w.heap.size w w' := by
  have hu25 := Try.underlying25
  have hu34 := Try.underlying34
  have HB := Aside0.mk (Below.refl w.heap.size w)
  go_enter Try.func50, Try.ntmps50
  go_wp2_with (first | ((with_reducible refine gate_dst (N := 2) rfl ?_); refine sh_E 2 34 #[.bool l.f0.f0, .int .u64 l.f0.f1, .int .u64 l.f0.f2, .int .i64 l.f1] ?_; intro g hg w1 hbox hb; replace HB := sh_S HB hb; obtain ⟨c0, c1, c2, c3⟩ := MBlk.c4 hbox; replace h0 := pw_cell_below hb h0; replace h1 := pw_cell_below hb h1; replace h2 := pw_cell_below hb h2; clear hbox hb hg) | fail)
  go_ret
  exact ⟨rfl, HB.out⟩

theorem RL.reads {w : World} {v : Value} {ls : List Lo} (h : RL w v ls) : ∃ A c, v = .slice A ls.length c ∧ k34.C w A ls.length ls := by
  obtain ⟨A, c, e⟩ := h.slice
  subst e
  exact ⟨A, c, rfl, (Kd.R_reads' h).2.2⟩
/-- The place as the program tells it. -/
def idx (ls : List Lo) (a : Ad) : Int := match place ls a with | some k => (k : Int) | none => -1
theorem place_cons (l : Lo) (r : List Lo) (a : Ad) : place (l :: r) a = if eqA l.f0 a = true then some 0 else (place r a).map (· + 1) := rfl
/-- Where the next one stands, k rounds on. -/
theorem place_drop {ls : List Lo} {a : Ad} : ∀ {i : Nat}, (∀ j l, j < i → ls[j]? = some l → eqA l.f0 a = false) → place ls a = (place (ls.drop i) a).map (· + i) := by
  intro i
  induction i generalizing ls with
  | zero => intro _; cases h : place ls a <;> simp [h]
  | succ i ih =>
    intro h
    cases ls with
    | nil => rfl
    | cons l r =>
      have h0 := h 0 l (by omega) rfl
      have := ih (ls := r) (fun j m hj hm => h (j + 1) m (by omega) (by simpa using hm))
      rw [place_cons, if_neg (by rw [h0]; decide), this, List.drop_succ_cons, Option.map_map]
      refine congrArg (fun f => Option.map f _) (funext fun x => ?_)
      simp only [Function.comp]; omega
set_option maxHeartbeats 1000000 in
set_option maxRecDepth 100000 in
theorem index_calls (w : World) (A : Option Addr) (c cb : Nat) (ls : List Lo) (a : Ad) (hC : k34.C w A ls.length ls) (h8 : ls.length ≤ 8) (h0 : w.cell? ⟨cb, 0, none⟩ = some (.bool a.f0)) (h1 : w.cell? ⟨cb, 1, none⟩ = some (.int .u64 a.f1)) (h2 : w.cell? ⟨cb, 2, none⟩ = some (.int .u64 a.f2)) :
    Calls Try.prog 49 #[.slice A ls.length c, .func (.func 50) #[] #[.pointer (some ⟨cb, 0, none⟩)]] w fun e w' => e = .returned (.int .i64 (idx ls a)) ∧ Below w.heap.size w w' := by
  have hu34 := Try.underlying34
  have hu25 := Try.underlying25
  go_enter Try.func49, Try.ntmps49
  go_wp2
  go_loopg [5, 8] ls.length (fun kq v5 v8 w' => ∃ i : Nat, v8 = .int .i64 (i : Int) ∧ i + kq = ls.length ∧ (∀ j l, j < i → ls[j]? = some l → eqA l.f0 a = false) ∧ Aside0 (Below w.heap.size w w'))
  case atStart => exact ⟨0, rfl, by omega, fun j l hj => by omega, ⟨Below.refl _ _⟩⟩
  case round =>
    obtain ⟨i, rfl, hik, hno, HB⟩ := hrel
    by_cases hi : i < ls.length
    · obtain ⟨ad, e, x0, x1, x2, x3⟩ := at_T34 (Kd.C_below hC HB.out) (i : Int) (by omega) (by omega)
      subst e
      have hrd : rd_T34 ls (i : Int) = ls[i] := by
        unfold rd_T34
        rw [Int.toNat_natCast, List.getD_eq_getElem?_getD, List.getElem?_eq_getElem hi, Option.getD_some]
      rw [hrd] at x0 x1 x2 x3
      obtain ⟨l, hl⟩ : ∃ l, ls[i] = l := ⟨_, rfl⟩
      rw [hl] at x0 x1 x2 x3
      have hget : ls[i]? = some l := by rw [List.getElem?_eq_getElem hi, hl]
      have hd : place ls a = (place (ls.drop i) a).map (· + i) := place_drop hno
      rw [List.drop_eq_getElem_cons hi, hl, place_cons] at hd
      obtain ⟨x, hx⟩ : ∃ x : Int, (i : Int) = x := ⟨_, rfl⟩
      rw [hx] at x0 x1 x2 x3 ⊢
      have b1 : decide (x < (ls.length : Int)) = true := decide_eq_true (by omega)
      have p1 : (0 ≤ x) = True := eq_true (by omega)
      have q1 : (x < (ls.length : Int)) = True := eq_true (by omega)
      have hn : wrap64 (x + 1) = ((i + 1 : Nat) : Int) := by unfold wrap64; omega
      have y0 := pw_cell_below HB.out h0
      have y1 := pw_cell_below HB.out h1
      have y2 := pw_cell_below HB.out h2
      obtain ⟨gk, rfl⟩ : ∃ q, gk = q + 1 := ⟨gk - 1, by omega⟩
      go_wp2_with fail
      refine Calls.mono (eqf_calls _ l a cb y0 y1 y2) ?_
      rintro e w' ⟨rfl, hb⟩
      have HB2 := Aside0.mk (below_step HB.out hb)
      cases hq : eqA l.f0 a with
      | true =>
        rw [hq, if_pos rfl] at hd
        go_wp2
        go_ret
        have hv : idx ls a = x := by
          unfold idx
          rw [hd, ← hx]
          simp only [Option.map_some, Nat.zero_add]
        rw [hv]
        exact ⟨rfl, HB2.out⟩
      | false =>
        go_wp2
        go_roundg gk
        case measure => omega
        case rel => exact ⟨i + 1, by first | rw [hn] | exact congrArg _ (by omega), by omega, fun j m hj hm => by
          rcases Nat.lt_or_ge j i with q | q
          · exact hno j m q hm
          · obtain rfl : j = i := by omega
            rw [hget] at hm
            obtain rfl := Option.some.inj hm
            exact hq, HB2⟩
    · have hd : place ls a = none := place_none.2 (fun l hl e => by
        obtain ⟨j, hj⟩ := List.mem_iff_getElem?.1 hl
        have := (List.getElem?_eq_some_iff.1 hj).1
        have := hno j l (by omega) hj
        rw [eqA_iff.2 e] at this
        cases this)
      obtain ⟨x, hx⟩ : ∃ x : Int, (i : Int) = x := ⟨_, rfl⟩
      have b1 : decide (x < (ls.length : Int)) = false := decide_eq_false (by omega)
      have hv : idx ls a = -1 := by unfold idx; rw [hd]
      rw [hx]
      clear hd hno hx hi
      go_wp2
      go_ret
      rw [hv]
      exact ⟨rfl, HB.out⟩
set_option maxHeartbeats 1000000 in
set_option maxRecDepth 100000 in
theorem place_calls (w : World) (pb i : Nat) (v : Value) (ls : List Lo) (hrow : RL w v ls) (h8 : ls.length ≤ 8) (hc : w.cell? ⟨pb, i * 5 + 4, none⟩ = some v) (a : Ad) :
    Calls Try.prog 30 #[.pointer (some ⟨pb, i * 5, none⟩), .agg #[.bool a.f0, .int .u64 a.f1, .int .u64 a.f2]] w fun e w' => e = .returned (.int .i64 (idx ls a)) ∧ Below w.heap.size w w' := by
  obtain ⟨A, c, e, hC⟩ := RL.reads hrow
  subst e
  have hu25 := Try.underlying25
  have HB := Aside0.mk (Below.refl w.heap.size w)
  go_enter Try.func30, Try.ntmps30
  go_wp2_with (first | ((with_reducible refine gate_dst (N := 3) rfl ?_); refine sh_E 3 25 #[.bool a.f0, .int .u64 a.f1, .int .u64 a.f2] ?_; intro g hg w1 hbox hb; replace HB := sh_S HB hb; obtain ⟨c0, c1, c2⟩ := MBlk.c3 hbox; replace hc := pw_cell_below hb hc; replace hC := Kd.C_below hC hb; clear hbox hb hg) | fail)
  refine Calls.mono (index_calls _ A c g ls a hC h8 c0 c1 c2) ?_
  rintro e w2 ⟨rfl, hb⟩
  replace HB := sh_S HB hb
  clear hb
  go_wp2
  go_ret
  exact ⟨rfl, HB.out⟩
end Go.Proofs.Ytefbcigccfkkgaa.WIf
