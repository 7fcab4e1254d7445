/-
  The walk of the law TallyMended, way by way, by hand, out of the contracts of what it calls.
-/
import Derived.Test.YtgloieofdnpggaaPTallyMendedx3
import Derived.Outline
set_option linter.unusedVariables false
set_option linter.unusedSimpArgs false
namespace Go.Proofs.Ytgloieofdnpggaa.WTallyMended
open Go.RowKit Go.Proofs.Ytgloieofdnpggaa.PTallyMended Go.Proofs.YtgloieofdnpggaaW.PrintWords Go.Proofs.YtgloieofdnpggaaW.PrintLast Go.Proofs.YtgloieofdnpggaaW.PrintMore
/-! Small facts for walks by hand. -/
theorem drewN_below {w w1 : World} (h : Below w.heap.size w w1) (n : Nat) : Below w.heap.size w (w1.drewN n) := pw_below_drewN h n
theorem below_of {w w1 w2 : World} (h : Below w.heap.size w w1) (h2 : Below w1.heap.size w1 w2) : Below w.heap.size w w2 := below_step h h2
/-- One slice in a new block: a row of one slice, that is read. -/
theorem C_one {e : Nat} {α : Type} {d : Kd α} {w : World} {A : Option Addr} {l : List α} {c : Nat} {ad : Addr} (hr : d.C w A l.length l) (hc : l.length ≤ c) (hcell : w.cell? ad = some (.slice A l.length c)) : Kd.C (Kd.slice e d) w (some ad) [l].length [l] := by
  refine ⟨rfl, by simp, fun _ => ⟨ad, rfl, fun j p hj => ?_⟩⟩
  cases j with
  | zero =>
    obtain rfl : l = p := by simpa using hj
    refine ⟨[.slice A l.length c], rfl, ⟨A, c, rfl, hc, hr⟩, fun i u hu => ?_⟩
    cases i with
    | zero =>
      obtain rfl : Value.slice A l.length c = u := by simpa using hu
      have e : ad.add (0 * (Kd.slice e d).sz + 0) = ad := by rw [Nat.zero_mul]; unfold Addr.add; cases ad; rename_i b o f; cases f <;> rfl
      rw [e]; exact hcell
    | succ i => simp at hu
  | succ j => simp at hj
/-- A variadic call's row of one slice: the new block, and its one cell. -/
theorem C_var {e t : Nat} {α : Type} {d : Kd α} {W : World} {A : Option Addr} {l : List α} {c b : Nat} (hr : d.C W A l.length l) (hc : l.length ≤ c) (hb : b = W.heap.size) :
    Kd.C (Kd.slice e d) (W.alloc (.cells #[.slice A l.length c] t)) (some ⟨b, 0, none⟩) [l].length [l] :=
  C_one (Kd.C_below hr (below_alloc (Below.refl _ _) _)) hc (by subst hb; simp)
set_option maxHeartbeats 400000 in
set_option maxRecDepth 100000 in
theorem main (k : Nat) (A0 : Option Addr) (c0 : Nat) (l : List Int) (a now : Int) (p q : Int) (l2 : List Int) (s1 s2 : Int) (w : World) (hr0 : Kd.C (Kd.int .u8) w A0 l.length l) (hc0 : l.length ≤ c0)
    (h1 : crosswaylaw02_awake.f k = some true) (h2 : crosswaylaw02_word.f l a = some (p, true)) (p0 : 0 ≤ p) (p1 : p < (l.length : Int)) (q0 : 0 ≤ q) (q1 : q < (l.length : Int)) (hq : wrap64 (p + 1) = q)
    (h3 : crosswaylaw02_copied.f l p now = some l2) (h4 : crosswaylaw02_nought.f k l2 = some false) (h5 : tally_Check.f k [l] = some s1)
    (h6 : tally_Update.f s1 (IntKind.u16.wrap ((IntKind.u16.wrap ((IntKind.u16.wrap (rd l p)) * 256)) + (IntKind.u16.wrap (rd l q)))) now = some s2) (h7 : tally_Check.f k [l2] = some s2) :
    Calls Try.prog 8 #[.slice A0 l.length c0, .int .i64 a, .int .u16 now] w fun e w' => e = .returned (.bool true) ∧ Below w.heap.size w w' := by
  have H1 := Aside0.mk h1; have H2 := Aside0.mk h2; have H3 := Aside0.mk h3; have H4 := Aside0.mk h4; have H5 := Aside0.mk h5; have H6 := Aside0.mk h6; have H7 := Aside0.mk h7
  have HR := Aside0.mk hr0; have HC := Aside0.mk hc0
  clear h1 h2 h3 h4 h5 h6 h7 hr0 hc0
  have HB := Aside0.mk (Below.refl w.heap.size w)
  obtain ⟨ad, e0, hx0⟩ := Kd.at_int HR.out p p0 p1
  obtain ⟨ad1, e1, hx1⟩ := Kd.at_int HR.out q q0 q1
  subst e0
  obtain rfl : ad = ad1 := by injection e1
  have X0 := Aside0.mk hx0; have X1 := Aside0.mk hx1
  clear e1 hx0 hx1
  have hqw : IntKind.i64.wrap (p + 1) = q := (i64_w _).trans hq
  replace p0 := eq_true p0; replace p1 := eq_true p1; replace q0 := eq_true q0; replace q1 := eq_true q1
  go_enter Try.func8, Try.ntmps8
  go_wp2_with fail
  refine (crosswaylaw02_awake.calls k true _ H1.out).mono ?_
  rintro e w1 ⟨rfl, hb⟩
  replace HB := Aside0.mk (below_of (by repeat (first | (with_reducible first | exact HB.out | apply below_alloc | apply pw_below_drewN | apply below_drew1) | exact HB.out)) hb); clear hb
  have x0 := pw_cell_below HB.out X0.out
  have x1 := pw_cell_below HB.out X1.out
  go_wp2_with fail
  refine (crosswaylaw02_word.calls _ _ l a p true _ (Kd.C_below HR.out (by repeat (first | (with_reducible first | exact HB.out | apply below_alloc | apply pw_below_drewN | apply below_drew1) | exact HB.out))) HC.out H2.out).mono ?_
  rintro e w2 ⟨rfl, ⟨nd, rfl⟩⟩
  go_wp2_with fail
  go_quiet (fail)
  clear x0 x1
  go_wp2_with fail
  refine (crosswaylaw02_copied.calls _ _ l p now l2 _ (Kd.C_below HR.out (by repeat (first | (with_reducible first | exact HB.out | apply below_alloc | apply pw_below_drewN | apply below_drew1) | exact HB.out))) HC.out H3.out).mono ?_
  rintro e w3 ⟨v3, rfl, ho3, hb⟩
  replace HB := Aside0.mk (below_of (by repeat (first | (with_reducible first | exact HB.out | apply below_alloc | apply pw_below_drewN | apply below_drew1) | exact HB.out)) hb); clear hb
  obtain ⟨A3, c3, rfl⟩ := Kd.R_slice ho3
  have HO3 := Aside0.mk (Kd.R_reads' ho3); clear ho3
  go_wp2_with fail
  refine (crosswaylaw02_nought.calls k _ _ l2 false _ HO3.out.2.2 HO3.out.2.1 H4.out).mono ?_
  rintro e w4 ⟨rfl, ⟨nd4, rfl⟩⟩
  go_wp2_with fail
  refine (tally_Check.calls k (some _) 1 [l] s1 _ (C_var (Kd.C_below HR.out (by repeat (first | (with_reducible first | exact HB.out | apply below_alloc | apply pw_below_drewN | apply below_drew1) | exact HB.out))) HC.out rfl) (Nat.le_refl _) H5.out).mono ?_
  rintro e w5 ⟨rfl, ⟨nd5, rfl⟩⟩
  go_wp2_with fail
  refine (tally_Update.calls _ _ _ s2 _ H6.out).mono ?_
  rintro e w6 ⟨rfl, ⟨nd6, rfl⟩⟩
  go_wp2_with fail
  refine (tally_Check.calls k (some _) 1 [l2] s2 _ (C_var (Kd.C_below HO3.out.2.2 (by repeat (first | (with_reducible first | exact Below.refl _ _ | apply below_alloc | apply pw_below_drewN | apply below_drew1) | exact Below.refl _ _))) HO3.out.2.1 (by simp)) (Nat.le_refl _) H7.out).mono ?_
  rintro e w7 ⟨rfl, ⟨nd7, rfl⟩⟩
  go_wp2_with fail
  go_ret
  exact ⟨by simp, (by repeat (first | (with_reducible first | exact HB.out | apply below_alloc | apply pw_below_drewN | apply below_drew1) | exact HB.out))⟩
set_option maxHeartbeats 400000 in
set_option maxRecDepth 100000 in
theorem noughts (k : Nat) (A0 : Option Addr) (c0 : Nat) (l : List Int) (a now : Int) (p q : Int) (l2 : List Int) (w : World) (hr0 : Kd.C (Kd.int .u8) w A0 l.length l) (hc0 : l.length ≤ c0)
    (h1 : crosswaylaw02_awake.f k = some true) (h2 : crosswaylaw02_word.f l a = some (p, true)) (p0 : 0 ≤ p) (p1 : p < (l.length : Int)) (q0 : 0 ≤ q) (q1 : q < (l.length : Int)) (hq : wrap64 (p + 1) = q)
    (h3 : crosswaylaw02_copied.f l p now = some l2) (h4 : crosswaylaw02_nought.f k l2 = some true) :
    Calls Try.prog 8 #[.slice A0 l.length c0, .int .i64 a, .int .u16 now] w fun e w' => e = .returned (.bool true) ∧ Below w.heap.size w w' := by
  have H1 := Aside0.mk h1; have H2 := Aside0.mk h2; have H3 := Aside0.mk h3; have H4 := Aside0.mk h4
  have HR := Aside0.mk hr0; have HC := Aside0.mk hc0
  clear h1 h2 h3 h4 hr0 hc0
  have HB := Aside0.mk (Below.refl w.heap.size w)
  obtain ⟨ad, e0, hx0⟩ := Kd.at_int HR.out p p0 p1
  obtain ⟨ad1, e1, hx1⟩ := Kd.at_int HR.out q q0 q1
  subst e0
  obtain rfl : ad = ad1 := by injection e1
  have X0 := Aside0.mk hx0; have X1 := Aside0.mk hx1
  clear e1 hx0 hx1
  have hqw : IntKind.i64.wrap (p + 1) = q := (i64_w _).trans hq
  replace p0 := eq_true p0; replace p1 := eq_true p1; replace q0 := eq_true q0; replace q1 := eq_true q1
  go_enter Try.func8, Try.ntmps8
  go_wp2_with fail
  refine (crosswaylaw02_awake.calls k true _ H1.out).mono ?_
  rintro e w1 ⟨rfl, hb⟩
  replace HB := Aside0.mk (below_of (by repeat (first | (with_reducible first | exact HB.out | apply below_alloc | apply pw_below_drewN | apply below_drew1) | exact HB.out)) hb); clear hb
  have x0 := pw_cell_below HB.out X0.out
  have x1 := pw_cell_below HB.out X1.out
  go_wp2_with fail
  refine (crosswaylaw02_word.calls _ _ l a p true _ (Kd.C_below HR.out (by repeat (first | (with_reducible first | exact HB.out | apply below_alloc | apply pw_below_drewN | apply below_drew1) | exact HB.out))) HC.out H2.out).mono ?_
  rintro e w2 ⟨rfl, ⟨nd, rfl⟩⟩
  go_wp2_with fail
  go_quiet (fail)
  clear x0 x1
  go_wp2_with fail
  refine (crosswaylaw02_copied.calls _ _ l p now l2 _ (Kd.C_below HR.out (by repeat (first | (with_reducible first | exact HB.out | apply below_alloc | apply pw_below_drewN | apply below_drew1) | exact HB.out))) HC.out H3.out).mono ?_
  rintro e w3 ⟨v3, rfl, ho3, hb⟩
  replace HB := Aside0.mk (below_of (by repeat (first | (with_reducible first | exact HB.out | apply below_alloc | apply pw_below_drewN | apply below_drew1) | exact HB.out)) hb); clear hb
  obtain ⟨A3, c3, rfl⟩ := Kd.R_slice ho3
  have HO3 := Aside0.mk (Kd.R_reads' ho3); clear ho3
  go_wp2_with fail
  refine (crosswaylaw02_nought.calls k _ _ l2 true _ HO3.out.2.2 HO3.out.2.1 H4.out).mono ?_
  rintro e w4 ⟨rfl, ⟨nd4, rfl⟩⟩
  go_wp2_with fail
  go_ret
  exact ⟨rfl, (by repeat (first | (with_reducible first | exact HB.out | apply below_alloc | apply pw_below_drewN | apply below_drew1) | exact HB.out))⟩
set_option maxHeartbeats 400000 in
set_option maxRecDepth 100000 in
theorem noword (k : Nat) (A0 : Option Addr) (c0 : Nat) (l : List Int) (a now : Int) (p : Int) (w : World) (hr0 : Kd.C (Kd.int .u8) w A0 l.length l) (hc0 : l.length ≤ c0)
    (h1 : crosswaylaw02_awake.f k = some true) (h2 : crosswaylaw02_word.f l a = some (p, false)) :
    Calls Try.prog 8 #[.slice A0 l.length c0, .int .i64 a, .int .u16 now] w fun e w' => e = .returned (.bool true) ∧ Below w.heap.size w w' := by
  have H1 := Aside0.mk h1; have H2 := Aside0.mk h2
  have HR := Aside0.mk hr0; have HC := Aside0.mk hc0
  clear h1 h2 hr0 hc0
  have HB := Aside0.mk (Below.refl w.heap.size w)
  go_enter Try.func8, Try.ntmps8
  go_wp2_with fail
  refine (crosswaylaw02_awake.calls k true _ H1.out).mono ?_
  rintro e w1 ⟨rfl, hb⟩
  replace HB := Aside0.mk (below_of (by repeat (first | (with_reducible first | exact HB.out | apply below_alloc | apply pw_below_drewN | apply below_drew1) | exact HB.out)) hb); clear hb
  go_wp2_with fail
  refine (crosswaylaw02_word.calls _ _ l a p false _ (Kd.C_below HR.out (by repeat (first | (with_reducible first | exact HB.out | apply below_alloc | apply pw_below_drewN | apply below_drew1) | exact HB.out))) HC.out H2.out).mono ?_
  rintro e w2 ⟨rfl, ⟨nd, rfl⟩⟩
  go_wp2_with fail
  go_ret
  exact ⟨rfl, (by repeat (first | (with_reducible first | exact HB.out | apply below_alloc | apply pw_below_drewN | apply below_drew1) | exact HB.out))⟩

end Go.Proofs.Ytgloieofdnpggaa.WTallyMended
