/-
  What the package variable excuse.table holds when a call of a tied row begins: the table of what is said, as its contracts want it. Conditions: those of each theorem.
-/
import Derived.Test.YtaoopneiglgnkaaDoorRows
import Derived.Test.YtaoopneiglgnkaaDoorPBasex5
import Derived.OpenShut
import Derived.ChangeSame
import Derived.MakeChecks
set_option linter.unusedVariables false
set_option linter.unusedSimpArgs false
namespace Go.Proofs.YtaoopneiglgnkaaDoor.MGlob
open Go.ChangeShapes Go.WideShapes Go.ChangeAt Go.RowKit Go.Proofs.YtaoopneiglgnkaaDoor.PBase
set_option maxRecDepth 100000 in
theorem field_of {W : World} {base fuel : Nat} {spare : Bool} {held : Nat → Bool} {cs : List Value} {y : DataW Unit × List MemPlace} {enc : TypeId × Value → Unit} (h : DataW.trod enc Tryd.prog W base held spare fuel 54 cs = some y) :
    ∃ a b c d, cs = [.int .i64 a, .int .i64 b, .int .i64 c, .int .i64 d] ∧ y.1 = .agg [.lit (.int .i64 a), .lit (.int .i64 b), .lit (.int .i64 c), .lit (.int .i64 d)] := by
  obtain ⟨ys, n, _, rfl, hl, hlen, hf⟩ := DataW.trod_struct Tryd.underlying54 h
  have c4 : Tryd.prog.cellsOf 54 = 4 := by kernel_rfl
  have c3 : Tryd.prog.cellsOf 3 = 1 := by kernel_rfl
  rw [c4] at hl
  match ys, hlen with
  | [y0, y1, y2, y3], _ =>
    have h0 : DataW.trod enc Tryd.prog W base held spare n 3 ((cs.drop 0).take (Tryd.prog.cellsOf 3)) = some y0 := hf 0 _ rfl
    rw [c3] at h0
    have h1 : DataW.trod enc Tryd.prog W base held spare n 3 ((cs.drop 1).take (Tryd.prog.cellsOf 3)) = some y1 := hf 1 _ rfl
    rw [c3] at h1
    have h2 : DataW.trod enc Tryd.prog W base held spare n 3 ((cs.drop 2).take (Tryd.prog.cellsOf 3)) = some y2 := hf 2 _ rfl
    rw [c3] at h2
    have h3 : DataW.trod enc Tryd.prog W base held spare n 3 ((cs.drop 3).take (Tryd.prog.cellsOf 3)) = some y3 := hf 3 _ rfl
    rw [c3] at h3
    obtain ⟨a, e0, e1, _⟩ := DataW.trod_int Tryd.underlying3 h0
    obtain ⟨b, e2, e3, _⟩ := DataW.trod_int Tryd.underlying3 h1
    obtain ⟨c, e4, e5, _⟩ := DataW.trod_int Tryd.underlying3 h2
    obtain ⟨d, e6, e7, _⟩ := DataW.trod_int Tryd.underlying3 h3
    match cs, hl with
    | [u, v, s, t], _ =>
      simp at e0 e2 e4 e6
      refine ⟨a, b, c, d, by rw [e0, e2, e4, e6], ?_⟩
      simp only [List.map_cons, List.map_nil, e1, e3, e5, e7]
set_option maxRecDepth 100000 in
theorem glob_of {W : World} {laid : List (String × DataW Unit)} (hlaid : laid = [("crossway/excuse.table", Rows.laid_crossway_excuse_table)]) (h : laidMetH Tryd.prog laid W) : excuse_Glob W := by
  subst hlaid
  rw [MakeChecks.laidMetH_plain _ _ _ (by kernel_rfl)] at h
  obtain ⟨ps, ⟨g, t, cs, fuel, p, q, hg, ht, hv, hd, _, _⟩, _, _⟩ := h
  obtain rfl := Option.some.inj ((show Tryd.prog.globalNamed "crossway/excuse.table" = some 0 by kernel_rfl).symm.trans hg)
  obtain rfl := Option.some.inj ((show (Tryd.prog.globals[0]?).map (·.type) = some 55 by kernel_rfl).symm.trans ht)
  obtain ⟨xs, m, _, ex, hcl, hl, hel⟩ := DataW.trod_array Tryd.underlying55 hd
  have c24 : Tryd.prog.cellsOf 55 = 24 := by kernel_rfl
  have c4 : Tryd.prog.cellsOf 54 = 4 := by kernel_rfl
  rw [c24] at hcl
  unfold excuse_Glob
  rw [hv]
  obtain ⟨cl⟩ := cs
  simp only at hcl hel ⊢
  rcases cl with _ | ⟨v0, cl⟩
  · simp at hcl
  rcases cl with _ | ⟨v1, cl⟩
  · simp at hcl
  rcases cl with _ | ⟨v2, cl⟩
  · simp at hcl
  rcases cl with _ | ⟨v3, cl⟩
  · simp at hcl
  rcases cl with _ | ⟨v4, cl⟩
  · simp at hcl
  rcases cl with _ | ⟨v5, cl⟩
  · simp at hcl
  rcases cl with _ | ⟨v6, cl⟩
  · simp at hcl
  rcases cl with _ | ⟨v7, cl⟩
  · simp at hcl
  rcases cl with _ | ⟨v8, cl⟩
  · simp at hcl
  rcases cl with _ | ⟨v9, cl⟩
  · simp at hcl
  rcases cl with _ | ⟨v10, cl⟩
  · simp at hcl
  rcases cl with _ | ⟨v11, cl⟩
  · simp at hcl
  rcases cl with _ | ⟨v12, cl⟩
  · simp at hcl
  rcases cl with _ | ⟨v13, cl⟩
  · simp at hcl
  rcases cl with _ | ⟨v14, cl⟩
  · simp at hcl
  rcases cl with _ | ⟨v15, cl⟩
  · simp at hcl
  rcases cl with _ | ⟨v16, cl⟩
  · simp at hcl
  rcases cl with _ | ⟨v17, cl⟩
  · simp at hcl
  rcases cl with _ | ⟨v18, cl⟩
  · simp at hcl
  rcases cl with _ | ⟨v19, cl⟩
  · simp at hcl
  rcases cl with _ | ⟨v20, cl⟩
  · simp at hcl
  rcases cl with _ | ⟨v21, cl⟩
  · simp at hcl
  rcases cl with _ | ⟨v22, cl⟩
  · simp at hcl
  rcases cl with _ | ⟨v23, cl⟩
  · simp at hcl
  obtain rfl : cl = [] := List.eq_nil_of_length_eq_zero (by simpa using hcl)
  clear hcl
  rcases xs with _ | ⟨x0, xs⟩
  · simp at hl
  rcases xs with _ | ⟨x1, xs⟩
  · simp at hl
  rcases xs with _ | ⟨x2, xs⟩
  · simp at hl
  rcases xs with _ | ⟨x3, xs⟩
  · simp at hl
  rcases xs with _ | ⟨x4, xs⟩
  · simp at hl
  rcases xs with _ | ⟨x5, xs⟩
  · simp at hl
  obtain rfl : xs = [] := List.eq_nil_of_length_eq_zero (by simpa using hl)
  clear hl
  have h0 := hel 0 (by decide)
  rw [c4] at h0
  obtain ⟨a0, b0, c0_, d0_, e0, d0⟩ := field_of (show DataW.trod _ Tryd.prog W _ _ _ _ 54 [v0, v1, v2, v3] = some x0 from h0)
  have h1 := hel 1 (by decide)
  rw [c4] at h1
  obtain ⟨a1, b1, c1_, d1_, e1, d1⟩ := field_of (show DataW.trod _ Tryd.prog W _ _ _ _ 54 [v4, v5, v6, v7] = some x1 from h1)
  have h2 := hel 2 (by decide)
  rw [c4] at h2
  obtain ⟨a2, b2, c2_, d2_, e2, d2⟩ := field_of (show DataW.trod _ Tryd.prog W _ _ _ _ 54 [v8, v9, v10, v11] = some x2 from h2)
  have h3 := hel 3 (by decide)
  rw [c4] at h3
  obtain ⟨a3, b3, c3_, d3_, e3, d3⟩ := field_of (show DataW.trod _ Tryd.prog W _ _ _ _ 54 [v12, v13, v14, v15] = some x3 from h3)
  have h4 := hel 4 (by decide)
  rw [c4] at h4
  obtain ⟨a4, b4, c4_, d4_, e4, d4⟩ := field_of (show DataW.trod _ Tryd.prog W _ _ _ _ 54 [v16, v17, v18, v19] = some x4 from h4)
  have h5 := hel 5 (by decide)
  rw [c4] at h5
  obtain ⟨a5, b5, c5_, d5_, e5, d5⟩ := field_of (show DataW.trod _ Tryd.prog W _ _ _ _ 54 [v20, v21, v22, v23] = some x5 from h5)
  have ed := (Prod.mk.inj ex).1
  simp only [List.map_cons, List.map_nil, d0, d1, d2, d3, d4, d5, Rows.laid_crossway_excuse_table, DataW.agg.injEq, List.cons.injEq, DataW.lit.injEq, Lit.int.injEq, true_and, and_true] at ed
  simp only [List.cons.injEq, and_true] at e0 e1 e2 e3 e4 e5
  obtain ⟨rfl, rfl, rfl, rfl⟩ := e0
  obtain ⟨rfl, rfl, rfl, rfl⟩ := e1
  obtain ⟨rfl, rfl, rfl, rfl⟩ := e2
  obtain ⟨rfl, rfl, rfl, rfl⟩ := e3
  obtain ⟨rfl, rfl, rfl, rfl⟩ := e4
  obtain ⟨rfl, rfl, rfl, rfl⟩ := e5
  obtain ⟨⟨rfl, rfl, rfl, rfl⟩, ⟨rfl, rfl, rfl, rfl⟩, ⟨rfl, rfl, rfl, rfl⟩, ⟨rfl, rfl, rfl, rfl⟩, ⟨rfl, rfl, rfl, rfl⟩, ⟨rfl, rfl, rfl, rfl⟩⟩ := ed
  rfl
end Go.Proofs.YtaoopneiglgnkaaDoor.MGlob
