/-
  What the package variable ether.fields holds when a call of a tied row begins: the table of widths, as its contracts want it. Conditions: those of each theorem.
-/
import Derived.Test.YthajbaheejdoaaaDoorRows
import Derived.Test.YthajbaheejdoaaaDoorPBasex4
import Derived.OpenShut
import Derived.ChangeSame
import Derived.MakeChecks
set_option linter.unusedVariables false
set_option linter.unusedSimpArgs false
namespace Go.Proofs.YthajbaheejdoaaaDoor.MGlob
open Go.ChangeShapes Go.WideShapes Go.ChangeAt Go.RowKit Go.Proofs.YthajbaheejdoaaaDoor.PBase
theorem field_of {W : World} {base fuel : Nat} {spare : Bool} {held : Nat → Bool} {cs : List Value} {y : DataW Unit × List MemPlace} {enc : TypeId × Value → Unit} (h : DataW.trod enc Tryd.prog W base held spare fuel 56 cs = some y) :
    ∃ a b, cs = [.int .i64 a, .int .u64 b] ∧ y.1 = .agg [.lit (.int .i64 a), .lit (.int .u64 b)] := by
  obtain ⟨y0, y1, n, rfl, hl, h0, h1⟩ := trod_struct2 Tryd.underlying56 h
  obtain ⟨a, e0, e1, _⟩ := DataW.trod_int Tryd.underlying3 h0
  obtain ⟨b, e2, e3, _⟩ := DataW.trod_int Tryd.underlying22 h1
  have c2 : Tryd.prog.cellsOf 56 = 2 := by kernel_rfl
  have c3 : Tryd.prog.cellsOf 3 = 1 := by kernel_rfl
  have c22 : Tryd.prog.cellsOf 22 = 1 := by kernel_rfl
  rw [c2] at hl
  simp only [c3] at e0
  simp only [c22] at e2
  match cs, hl with
  | [u, v], _ =>
    simp at e0 e2
    refine ⟨a, b, by rw [e0, e2], ?_⟩
    rw [e1, e3]
theorem glob_of {W : World} {laid : List (String × DataW Unit)} (hlaid : laid = [("crossway/ether.fields", Rows.laid_crossway_ether_fields)]) (h : laidMetH Tryd.prog laid W) : ether_Glob W := by
  subst hlaid
  rw [MakeChecks.laidMetH_plain _ _ _ (by kernel_rfl)] at h
  obtain ⟨ps, ⟨g, t, cs, fuel, p, q, hg, ht, hv, hd, _, _⟩, _, _⟩ := h
  obtain rfl := Option.some.inj ((show Tryd.prog.globalNamed "crossway/ether.fields" = some 0 by kernel_rfl).symm.trans hg)
  obtain rfl := Option.some.inj ((show (Tryd.prog.globals[0]?).map (·.type) = some 57 by kernel_rfl).symm.trans ht)
  obtain ⟨xs, m, _, ex, hcl, hl, hel⟩ := DataW.trod_array Tryd.underlying57 hd
  have c18 : Tryd.prog.cellsOf 57 = 18 := by kernel_rfl
  have c2 : Tryd.prog.cellsOf 56 = 2 := by kernel_rfl
  rw [c18] at hcl
  unfold ether_Glob
  rw [hv]
  obtain ⟨cl⟩ := cs
  simp only at hcl hel ⊢
  rcases cl with _ | ⟨v0, cl⟩
  · simp at hcl
  rcases cl with _ | ⟨v1, cl⟩
  · simp at hcl
  rcases cl with _ | ⟨v2, cl⟩
  · simp at hcl
  rcases cl with _ | ⟨v3, cl⟩
  · simp at hcl
  rcases cl with _ | ⟨v4, cl⟩
  · simp at hcl
  rcases cl with _ | ⟨v5, cl⟩
  · simp at hcl
  rcases cl with _ | ⟨v6, cl⟩
  · simp at hcl
  rcases cl with _ | ⟨v7, cl⟩
  · simp at hcl
  rcases cl with _ | ⟨v8, cl⟩
  · simp at hcl
  rcases cl with _ | ⟨v9, cl⟩
  · simp at hcl
  rcases cl with _ | ⟨v10, cl⟩
  · simp at hcl
  rcases cl with _ | ⟨v11, cl⟩
  · simp at hcl
  rcases cl with _ | ⟨v12, cl⟩
  · simp at hcl
  rcases cl with _ | ⟨v13, cl⟩
  · simp at hcl
  rcases cl with _ | ⟨v14, cl⟩
  · simp at hcl
  rcases cl with _ | ⟨v15, cl⟩
  · simp at hcl
  rcases cl with _ | ⟨v16, cl⟩
  · simp at hcl
  rcases cl with _ | ⟨v17, cl⟩
  · simp at hcl
  obtain rfl : cl = [] := List.eq_nil_of_length_eq_zero (by simpa using hcl)
  clear hcl
  rcases xs with _ | ⟨x0, xs⟩
  · simp at hl
  rcases xs with _ | ⟨x1, xs⟩
  · simp at hl
  rcases xs with _ | ⟨x2, xs⟩
  · simp at hl
  rcases xs with _ | ⟨x3, xs⟩
  · simp at hl
  rcases xs with _ | ⟨x4, xs⟩
  · simp at hl
  rcases xs with _ | ⟨x5, xs⟩
  · simp at hl
  rcases xs with _ | ⟨x6, xs⟩
  · simp at hl
  rcases xs with _ | ⟨x7, xs⟩
  · simp at hl
  rcases xs with _ | ⟨x8, xs⟩
  · simp at hl
  obtain rfl : xs = [] := List.eq_nil_of_length_eq_zero (by simpa using hl)
  clear hl
  have h0 := hel 0 (by decide)
  rw [c2] at h0
  obtain ⟨a0, b0, e0, d0⟩ := field_of (show DataW.trod _ Tryd.prog W _ _ _ _ 56 [v0, v1] = some x0 from h0)
  have h1 := hel 1 (by decide)
  rw [c2] at h1
  obtain ⟨a1, b1, e1, d1⟩ := field_of (show DataW.trod _ Tryd.prog W _ _ _ _ 56 [v2, v3] = some x1 from h1)
  have h2 := hel 2 (by decide)
  rw [c2] at h2
  obtain ⟨a2, b2, e2, d2⟩ := field_of (show DataW.trod _ Tryd.prog W _ _ _ _ 56 [v4, v5] = some x2 from h2)
  have h3 := hel 3 (by decide)
  rw [c2] at h3
  obtain ⟨a3, b3, e3, d3⟩ := field_of (show DataW.trod _ Tryd.prog W _ _ _ _ 56 [v6, v7] = some x3 from h3)
  have h4 := hel 4 (by decide)
  rw [c2] at h4
  obtain ⟨a4, b4, e4, d4⟩ := field_of (show DataW.trod _ Tryd.prog W _ _ _ _ 56 [v8, v9] = some x4 from h4)
  have h5 := hel 5 (by decide)
  rw [c2] at h5
  obtain ⟨a5, b5, e5, d5⟩ := field_of (show DataW.trod _ Tryd.prog W _ _ _ _ 56 [v10, v11] = some x5 from h5)
  have h6 := hel 6 (by decide)
  rw [c2] at h6
  obtain ⟨a6, b6, e6, d6⟩ := field_of (show DataW.trod _ Tryd.prog W _ _ _ _ 56 [v12, v13] = some x6 from h6)
  have h7 := hel 7 (by decide)
  rw [c2] at h7
  obtain ⟨a7, b7, e7, d7⟩ := field_of (show DataW.trod _ Tryd.prog W _ _ _ _ 56 [v14, v15] = some x7 from h7)
  have h8 := hel 8 (by decide)
  rw [c2] at h8
  obtain ⟨a8, b8, e8, d8⟩ := field_of (show DataW.trod _ Tryd.prog W _ _ _ _ 56 [v16, v17] = some x8 from h8)
  have ed := (Prod.mk.inj ex).1
  simp only [List.map_cons, List.map_nil, d0, d1, d2, d3, d4, d5, d6, d7, d8, Rows.laid_crossway_ether_fields, DataW.agg.injEq, List.cons.injEq, DataW.lit.injEq, Lit.int.injEq, true_and, and_true] at ed
  simp only [List.cons.injEq, and_true] at e0 e1 e2 e3 e4 e5 e6 e7 e8
  obtain ⟨rfl, rfl⟩ := e0
  obtain ⟨rfl, rfl⟩ := e1
  obtain ⟨rfl, rfl⟩ := e2
  obtain ⟨rfl, rfl⟩ := e3
  obtain ⟨rfl, rfl⟩ := e4
  obtain ⟨rfl, rfl⟩ := e5
  obtain ⟨rfl, rfl⟩ := e6
  obtain ⟨rfl, rfl⟩ := e7
  obtain ⟨rfl, rfl⟩ := e8
  obtain ⟨⟨rfl, rfl⟩, ⟨rfl, rfl⟩, ⟨rfl, rfl⟩, ⟨rfl, rfl⟩, ⟨rfl, rfl⟩, ⟨rfl, rfl⟩, ⟨rfl, rfl⟩, ⟨rfl, rfl⟩, ⟨rfl, rfl⟩⟩ := ed
  rfl
end Go.Proofs.YthajbaheejdoaaaDoor.MGlob
