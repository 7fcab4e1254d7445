/-
  The statement NdBack: the law 'crossway/crosswaylaw09.NdBack' returns true at every input, and its arguments read as they did. Out of the contract of its call and of the pure law. Conditions: none but the statement's own.
-/
import Derived.Test.YtkpncagfhiceoaaRows
import Derived.Test.YtkpncagfhiceoaaPBasex16
import Derived.Test.YtkpncagfhiceoaaPureNdBack
import Derived.Test.YtkpncagfhiceoaaMOpen
import Derived.WalkKit
import Derived.ProofKit
import Derived.OpenShut
import Derived.ShutString
import Derived.ChangeOld
import Derived.Below
import Derived.SizedLaws
import Derived.Carry
set_option linter.unusedVariables false
set_option linter.unusedSimpArgs false
namespace Go.Proofs.Ytkpncagfhiceoaa.ndBack
open Go.ChangeShapes Go.WideShapes Go.ChangeAt Go.RowKit Go.Proofs.Ytkpncagfhiceoaa.MOpen Go.Proofs.Ytkpncagfhiceoaa.PBase Go.Proofs.YtkpncagfhiceoaaW.PrintWords
open Go.ChangeMaps (open_string shut_string)
theorem own : ownKnob Try.prog.godebug = none := by kernel_rfl
theorem laidOut : laidOutB Try.prog = true := by kernel_rfl
set_option maxRecDepth 100000 in
theorem lifted (os : Os) (started : os.Started) (H : Type) (enc : TypeId × Value → H) :
    ReturnsInHanded {} Try.checked os 5 .any (Rows.ndBackSpec.pre6 enc Try.prog Try.f5 Rows.ndBackRow.domain false) (Rows.ndBackSpec.post enc Try.prog Try.f5 false true false false) := by
  refine returnsInHanded_of_change_sized (C := Try.checked) own started (by kernel_rfl) Try.func5
    (ChangeSpec.witness6 (enc := enc) (C := Try.checked) false ⟨#[], #[.agg #[.bool false, .int .u64 0, .int .u64 0, .bool false, .int .u64 0], .agg #[.bool false, .int .u64 0, .int .u64 0, .bool false, .bool false, .bool false, .bool false, .int .u64 0]], []⟩ 8 (by kernel_rfl) (by kernel_rfl) (by kernel_rfl) (by kernel_rfl)) ?_
  intro W base args ds gs before hval0 hW hcnd hsz0 _
  have hsz : (DataW.weightsEach Try.prog (Try.f5.params.toList ++ Rows.ndBackSpec.plain.varTypes Try.prog) (ds ++ gs)).all (· ≤ reachBytes) = true := hsz0
  have hval : ∀ (j : Nat) t v, Try.f5.params[j]? = some t → args[j]? = some v → Value.okWide Try.prog W .any base t v := hval0
  have hW' := hW
  obtain ⟨p, q, hA0, hV, rfl, hfz, hnd⟩ := hW
  have hA : DataW.TrodAll enc Try.prog W 0 (fun _ => true) true Try.f5.params.toList args.toList ds p := hA0
  rw [Try.params5] at hA hval hsz
  obtain ⟨v0, vs0, d0, ds0, p0, q0, hargs, rfl, rfl, h0, r0⟩ := trodAll_cons hA
  obtain ⟨v1, vs1, d1, ds1, p1, q1, rfl, rfl, rfl, h1, r1⟩ := trodAll_cons r0
  obtain ⟨rfl, rfl, rfl⟩ := trodAll_nil r1
  obtain rfl : args = #[v0, v1] := by cases args; simp_all
  obtain ⟨rfl, rfl⟩ := trodVars_none hV
  have k0_ := h0
  have lt0 : ∀ x ∈ p0, x.block < W.heap.size := by obtain ⟨m, hm⟩ := k0_; exact DataW.trod_lt m _ _ _ hm
  have hwt0 := weights_at (j := 0) hsz rfl rfl
  have o0 : Opens Try.prog 27 (Kd.iso (Kd.pair (Kd.iso (Kd.pair Kd.bool (Kd.pair (Kd.int .u64) (Kd.int .u64))) id) (Kd.pair Kd.bool (Kd.int .u64))) id) _ _ := (opens_struct Try.underlying27 (by kernel_rfl) (by kernel_rfl) id id (fun _ => rfl) (opens_pair (opens_struct Try.underlying24 (by kernel_rfl) (by kernel_rfl) id id (fun _ => rfl) (opens_pair (opens_bool Try.underlying4) (opens_pair (opens_int Try.underlying22) (opens_one (opens_int Try.underlying22))))) (opens_pair (opens_bool Try.underlying4) (opens_one (opens_int Try.underlying25)))))
  obtain ⟨fuel0, hf0⟩ := h0
  obtain ⟨cs0, rfl, _⟩ := okWide_struct Try.underlying27 (hval 0 27 v0 rfl rfl)
  obtain ⟨⟨⟨a0_0_0, a0_0_1, a0_0_2⟩, a0_1, a0_2⟩, hK0, ⟨⟨_, g0_0_1, g0_0_2⟩, _, g0_2⟩, b0⟩ := o0 hf0 hwt0
  obtain ⟨cs0⟩ := cs0
  obtain ⟨_, _, rfl, ⟨_, _, rfl, rfl, ⟨_, _, rfl, rfl, rfl⟩⟩, ⟨_, _, rfl, rfl, rfl⟩⟩ := hK0
  have k1_ := h1
  have lt1 : ∀ x ∈ p1, x.block < W.heap.size := by obtain ⟨m, hm⟩ := k1_; exact DataW.trod_lt m _ _ _ hm
  have hwt1 := weights_at (j := 1) hsz rfl rfl
  have o1 : Opens Try.prog 29 (Kd.iso (Kd.pair (Kd.iso (Kd.pair Kd.bool (Kd.pair (Kd.int .u64) (Kd.int .u64))) id) (Kd.pair Kd.bool (Kd.pair Kd.bool (Kd.pair Kd.bool (Kd.pair Kd.bool (Kd.int .u64)))))) id) _ _ := (opens_struct Try.underlying29 (by kernel_rfl) (by kernel_rfl) id id (fun _ => rfl) (opens_pair (opens_struct Try.underlying24 (by kernel_rfl) (by kernel_rfl) id id (fun _ => rfl) (opens_pair (opens_bool Try.underlying4) (opens_pair (opens_int Try.underlying22) (opens_one (opens_int Try.underlying22))))) (opens_pair (opens_bool Try.underlying4) (opens_pair (opens_bool Try.underlying4) (opens_pair (opens_bool Try.underlying4) (opens_pair (opens_bool Try.underlying4) (opens_one (opens_int Try.underlying25))))))))
  obtain ⟨fuel1, hf1⟩ := h1
  obtain ⟨cs1, rfl, _⟩ := okWide_struct Try.underlying29 (hval 1 29 v1 rfl rfl)
  obtain ⟨⟨⟨a1_0_0, a1_0_1, a1_0_2⟩, a1_1, a1_2, a1_3, a1_4, a1_5⟩, hK1, ⟨⟨_, g1_0_1, g1_0_2⟩, _, _, _, _, g1_5⟩, b1⟩ := o1 hf1 hwt1
  obtain ⟨cs1⟩ := cs1
  obtain ⟨_, _, rfl, ⟨_, _, rfl, rfl, ⟨_, _, rfl, rfl, rfl⟩⟩, ⟨_, _, rfl, rfl, ⟨_, _, rfl, rfl, ⟨_, _, rfl, rfl, ⟨_, _, rfl, rfl, rfl⟩⟩⟩⟩⟩ := hK1
  clear hA0 hval0 hsz0 hsz hval
  obtain ⟨k, hpure⟩ := Pure.NdBack a0_0_0 a0_0_1 a0_0_2 a0_1 a0_2 a1_0_0 a1_0_1 a1_0_2 a1_1 a1_2 a1_3 a1_4 a1_5 g0_0_1 g0_0_2 g0_2 g1_0_1 g1_0_2 g1_5
  have hcall := crosswaylaw09_NdBack.calls k a0_0_0 a0_0_1 a0_0_2 a0_1 a0_2 a1_0_0 a1_0_1 a1_0_2 a1_1 a1_2 a1_3 a1_4 a1_5 true W hpure rfl
  refine Calls.mono (show Calls Try.prog 5 #[.agg #[.bool a0_0_0, .int .u64 a0_0_1, .int .u64 a0_0_2, .bool a0_1, .int .u64 a0_2], .agg #[.bool a1_0_0, .int .u64 a1_0_1, .int .u64 a1_0_2, .bool a1_1, .bool a1_2, .bool a1_3, .bool a1_4, .int .u64 a1_5]] W _ from hcall) fun e W' ⟨he, bel⟩ => ?_
  subst he
  exact ⟨_, rfl, _, _, _, [], _, [], hW', trodAll_mk1 (shut_bool Try.underlying4 _), (trodAll_cons_mk (Below.trod laidOut (by kernel_rfl) (of_decide_eq_true (by kernel_rfl)) k0_ bel lt0) (trodAll_cons_mk (Below.trod laidOut (by kernel_rfl) (of_decide_eq_true (by kernel_rfl)) k1_ bel lt1) trodAll_mk0)), rfl, bel.frame _, fun h => by cases h⟩
theorem over : Rows.ndBackRow.holds Try.pinned (OpenSpec.ofChange Rows.ndBackSpec) :=
  OpenClaim.holds_of_wide 5 Try.f5 rfl rfl rfl rfl rfl rfl rfl ⟨rfl, rfl, rfl, rfl, rfl⟩ rfl rfl rfl rfl rfl (by kernel_rfl) Try.func5 (by kernel_rfl)
    (of_decide_eq_true (by kernel_rfl)) (by unfold Func.isWrapper; first | (rw [if_pos (by decide +kernel)]; kernel_rfl) | (rw [if_neg (by decide +kernel)]; exact ⟨rfl, rfl⟩))
    (fun os started H enc _ => lifted os started H enc)
theorem proved : Rows.NdBackSaid := over
#print axioms proved
end Go.Proofs.Ytkpncagfhiceoaa.ndBack
namespace Go.Proofs.Ytkpncagfhiceoaa
/-- The row, under a short name, for the claim. -/
theorem ndBack_holds : Rows.NdBackSaid := ndBack.proved
end Go.Proofs.Ytkpncagfhiceoaa
