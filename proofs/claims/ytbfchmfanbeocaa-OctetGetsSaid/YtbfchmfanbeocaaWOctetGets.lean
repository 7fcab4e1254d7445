/-
  The walk of the law OctetGets, by hand, out of the contracts of what it calls.
-/
import Derived.Test.YtbfchmfanbeocaaPBasex2
import Derived.Test.YtbfchmfanbeocaaPureRef01
import Derived.Outline
set_option linter.unusedVariables false
set_option linter.unusedSimpArgs false
namespace Go.Proofs.Ytbfchmfanbeocaa.WOctetGets
open Go.RowKit Go.Proofs.Ytbfchmfanbeocaa.PBase Go.Proofs.YtbfchmfanbeocaaW.PrintWords Go.Proofs.YtbfchmfanbeocaaW.PrintLast Go.Proofs.YtbfchmfanbeocaaW.PrintMore
/-! Small facts for walks by hand. -/
theorem drewN_below {w w1 : World} (h : Below w.heap.size w w1) (n : Nat) : Below w.heap.size w (w1.drewN n) := pw_below_drewN h n
theorem below_of {w w1 w2 : World} (h : Below w.heap.size w w1) (h2 : Below w1.heap.size w1 w2) : Below w.heap.size w w2 := below_step h h2
/-- One slice in a new block: a row of one slice, that is read. -/
theorem C_one {e : Nat} {α : Type} {d : Kd α} {w : World} {A : Option Addr} {l : List α} {c : Nat} {ad : Addr} (hr : d.C w A l.length l) (hc : l.length ≤ c) (hcell : w.cell? ad = some (.slice A l.length c)) : Kd.C (Kd.slice e d) w (some ad) [l].length [l] := by
  refine ⟨rfl, by simp, fun _ => ⟨ad, rfl, fun j p hj => ?_⟩⟩
  cases j with
  | zero =>
    obtain rfl : l = p := by simpa using hj
    refine ⟨[.slice A l.length c], rfl, ⟨A, c, rfl, hc, hr⟩, fun i u hu => ?_⟩
    cases i with
    | zero =>
      obtain rfl : Value.slice A l.length c = u := by simpa using hu
      have e : ad.add (0 * (Kd.slice e d).sz + 0) = ad := by rw [Nat.zero_mul]; unfold Addr.add; cases ad; rename_i b o f; cases f <;> rfl
      rw [e]; exact hcell
    | succ i => simp at hu
  | succ j => simp at hj
/-- A variadic call's row of one slice: the new block, and its one cell. -/
theorem C_var {e t : Nat} {α : Type} {d : Kd α} {W : World} {A : Option Addr} {l : List α} {c b : Nat} (hr : d.C W A l.length l) (hc : l.length ≤ c) (hb : b = W.heap.size) :
    Kd.C (Kd.slice e d) (W.alloc (.cells #[.slice A l.length c] t)) (some ⟨b, 0, none⟩) [l].length [l] :=
  C_one (Kd.C_below hr (below_alloc (Below.refl _ _) _)) hc (by subst hb; simp)
/-- Lent bytes: what is read of them. -/
theorem lent_reads {w' : World} {base g c : Nat} {l : List Int} {e : Nat} (h : Kd.R (Kd.int .u8) e w' base (fun _ => True) (.slice (some ⟨g, 0, none⟩) (l.length + 2) c) (l ++ [201, 202])) :
    l.length ≤ c ∧ (l.length + 2 ≤ c ∧ Kd.C (Kd.int .u8) w' (some ⟨g, 0, none⟩) (l.length + 2) (l ++ [201, 202])) ∧ Kd.C (Kd.int .u8) w' (some ⟨g, 0, none⟩) l.length l := by
  have h1 := Kd.R_reads' h
  have h0 : (l ++ [201, 202]).length = l.length + 2 := by simp
  have h2 := Kd.C_take (m := l.length) h1.2.2 (by rw [h0]; omega)
  rw [List.take_left] at h2
  have h3 := h1.2.1
  have h4 := h1.2.2
  rw [h0] at h4
  exact ⟨by omega, ⟨h3, h4⟩, h2⟩
set_option maxHeartbeats 400000 in
set_option maxRecDepth 100000 in
theorem main (k : Nat) (A0 : Option Addr) (c0 : Nat) (l : List Int) (a n : Int) (p : Int) (q : Bool) (w : World) (hr0 : Kd.C (Kd.int .u8) w A0 l.length l) (hc0 : l.length ≤ c0) (hl : l.length ≤ 140737488355200)
    (h1 : octet_Get.f k l a n = some (p, q)) (h2 : crosswayref01_Get.f k l a n = some (p, q)) (h3 : crosswayref01_Same.f k l l = some true) :
    Calls Try.prog 4 #[.slice A0 l.length c0, .int .i64 a, .int .i64 n] w fun e w' => e = .returned (.bool true) ∧ Below w.heap.size w w' := by
  have H1 := Aside0.mk h1; have H2 := Aside0.mk h2; have H3 := Aside0.mk h3
  have HR := Aside0.mk hr0; have HC := Aside0.mk hc0; have HL := Aside0.mk hl
  clear h1 h2 h3 hr0 hc0
  have HB := Aside0.mk (Below.refl w.heap.size w)
  go_enter Try.func4, Try.ntmps4
  go_wp2_with fail
  refine (crosswaylaw01_awake.calls true _ rfl).mono ?_
  rintro e w1 ⟨rfl, hb⟩
  replace HB := Aside0.mk (below_of (by repeat (first | (with_reducible first | exact HB.out | apply below_alloc | apply pw_below_drewN | apply below_drew1) | exact HB.out)) hb); clear hb
  go_wp2_with fail
  refine (crosswaylaw01_lent.calls _ _ l _ (Kd.C_below HR.out (by repeat (first | (with_reducible first | exact HB.out | apply below_alloc | apply pw_below_drewN | apply below_drew1) | exact HB.out))) HC.out HL.out).mono ?_
  rintro e w2 ⟨g, c, rfl, ho, hb⟩
  replace HB := Aside0.mk (below_of (by repeat (first | (with_reducible first | exact HB.out | apply below_alloc | apply pw_below_drewN | apply below_drew1) | exact HB.out)) hb); clear hb
  have HO := Aside0.mk (lent_reads ho); clear ho
  go_wp2_with fail
  refine (octet_Get.calls k _ _ l a n p q _ (Kd.C_below HO.out.2.2 (by repeat (first | (with_reducible first | exact Below.refl _ _ | apply below_alloc | apply pw_below_drewN | apply below_drew1) | exact Below.refl _ _))) HO.out.1 H1.out).mono ?_
  rintro e w3 ⟨rfl, ⟨nd, rfl⟩⟩
  go_wp2_with fail
  refine (crosswayref01_Get.calls k _ _ l a n p q _ (Kd.C_below HR.out (by repeat (first | (with_reducible first | exact HB.out | apply below_alloc | apply pw_below_drewN | apply below_drew1) | exact HB.out))) HC.out H2.out).mono ?_
  rintro e w4 ⟨rfl, ⟨nd4, rfl⟩⟩
  go_wp2_with fail
  refine (crosswaylaw01_whole.yes k _ _ _ _ l _ (Kd.C_below HO.out.2.1.2 (by repeat (first | (with_reducible first | exact Below.refl _ _ | apply below_alloc | apply pw_below_drewN | apply below_drew1) | exact Below.refl _ _))) HO.out.2.1.1 (Kd.C_below HR.out (by repeat (first | (with_reducible first | exact HB.out | apply below_alloc | apply pw_below_drewN | apply below_drew1) | exact HB.out))) HC.out H3.out HL.out).mono ?_
  rintro e w5 ⟨rfl, ⟨nd5, rfl⟩⟩
  go_wp2_with fail
  go_ret
  exact ⟨by simp, (by repeat (first | (with_reducible first | exact HB.out | apply below_alloc | apply pw_below_drewN | apply below_drew1) | exact HB.out))⟩
end Go.Proofs.Ytbfchmfanbeocaa.WOctetGets
namespace Go.Proofs.Ytbfchmfanbeocaa.WOctetGets
open Go.RowKit Go.Proofs.Ytbfchmfanbeocaa.PBase Go.Proofs.Ytbfchmfanbeocaa.MTally Go.Proofs.YtbfchmfanbeocaaW.PrintWords
theorem calls (A0 : Option Addr) (c0 : Nat) (l : List Int) (a n : Int) (hl : l.length * 1 ≤ 140737488351232) (hb : ∀ x ∈ l, (Lit.int .u8 x).wf = true) (ha : (Lit.int .i64 a).wf = true) (hn : (Lit.int .i64 n).wf = true)
    (w : World) (hr0 : Kd.C (Kd.int .u8) w A0 l.length l) (hc0 : l.length ≤ c0) : Calls Try.prog 4 #[.slice A0 l.length c0, .int .i64 a, .int .i64 n] w fun e w' => e = .returned (.bool true) ∧ Below w.heap.size w w' := by
  have bl := Pure.bytes_of_wf hb
  obtain ⟨k1, h1⟩ := Pure.get_ev bl (by omega) (Pure.i64_of_wf ha) (Pure.i64_of_wf hn)
  obtain ⟨k2, h2⟩ := Pure.rget_ev bl (by omega) (Pure.i64_of_wf ha) (Pure.i64_of_wf hn)
  obtain ⟨k3, h3⟩ := Pure.same_ev (l := l) (by omega)
  exact main (k1 + k2 + k3) A0 c0 l a n _ _ w hr0 hc0 (by omega) (h1 _ (by omega)) (h2 _ (by omega)) (h3 _ (by omega))
end Go.Proofs.Ytbfchmfanbeocaa.WOctetGets
