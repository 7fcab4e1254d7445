/-
  The statement FourLaysUpto: the law 'crossway/crosswaylaw06.FourLays' returns true at every input of bulk at most 1048576, and its arguments read as they did. Out of the contract of its call and of the pure law. Conditions: none but the statement's own.
-/
import Derived.Test.YtedampcicmaamaaRows
import Derived.Test.YtedampcicmaamaaPBasex12
import Derived.Test.YtedampcicmaamaaPureFourLays
import Derived.Test.YtedampcicmaamaaMOpen
import Derived.WalkKit
import Derived.ProofKit
import Derived.OpenShut
import Derived.ShutString
import Derived.ChangeOld
import Derived.Below
import Derived.SizedLaws
import Derived.Carry
import Derived.JoinedCond
import Derived.Deep.CondSized
set_option linter.unusedVariables false
set_option linter.unusedSimpArgs false
namespace Go.Proofs.Ytedampcicmaamaa.fourLaysUpto
open Go.ChangeShapes Go.WideShapes Go.ChangeAt Go.RowKit Go.Proofs.Ytedampcicmaamaa.MOpen Go.Proofs.Ytedampcicmaamaa.PBase Go.Proofs.YtedampcicmaamaaW.PrintWords
open Go.ChangeMaps (open_string shut_string)
theorem own : ownKnob Try.prog.godebug = none := by kernel_rfl
theorem laidOut : laidOutB Try.prog = true := by kernel_rfl
set_option maxRecDepth 100000 in
theorem lifted (os : Os) (started : os.Started) (H : Type) (enc : TypeId × Value → H) (F : Stop.Interp) :
    ReturnsInHanded {} Try.checked os 3 .any ((Rows.OpenSpec.upto Rows.fourLaysSpec).pre6 enc Try.prog Try.f3 Rows.fourLaysUptoRow.domain false) (((Rows.OpenSpec.upto Rows.fourLaysSpec).at F).post enc Try.prog Try.f3 false true false false) := by
  refine returnsInHanded_of_cond_sized (C := Try.checked) (s := Rows.OpenSpec.upto Rows.fourLaysSpec) (k := Rows.uptoSmall) rfl own started (by kernel_rfl) Try.func3
    (OpenSpec.witness (enc := enc) (C := Try.checked) (s := Rows.OpenSpec.upto Rows.fourLaysSpec) (k := Rows.uptoSmall) rfl false ⟨#[], #[.agg #[.int .i64 0, .int .i64 0, .bool false, .bool false, .int .i64 0, .int .i64 0, .int .i64 0, .bool false, .int .u64 0, .int .u64 0, .bool false, .int .u64 0, .int .u64 0, .string ByteArray.empty, .string ByteArray.empty]], []⟩ 8 (by kernel_rfl) (by kernel_rfl) (by kernel_rfl)
      (x := ([.agg [.lit (.int .i64 0), .lit (.int .i64 0), .lit (.bool false), .lit (.bool false), .lit (.int .i64 0), .lit (.int .i64 0), .lit (.int .i64 0), .agg [.lit (.bool false), .lit (.int .u64 0), .lit (.int .u64 0)], .agg [.lit (.bool false), .lit (.int .u64 0), .lit (.int .u64 0)], .lit (.string []), .lit (.string [])]], [], [])) (by kernel_rfl) rfl (by kernel_rfl)) ?_
  intro W base args ds gs before hval0 hW hcnd hk hsz0 _
  have hsz : (DataW.weightsEach Try.prog (Try.f3.params.toList ++ (Rows.OpenSpec.upto Rows.fourLaysSpec).bare.plain.varTypes Try.prog) (ds ++ gs)).all (· ≤ reachBytes) = true := hsz0
  have hval : ∀ (j : Nat) t v, Try.f3.params[j]? = some t → args[j]? = some v → Value.okWide Try.prog W .any base t v := hval0
  have hW' := hW
  obtain ⟨p, q, hA0, hV, rfl, hfz, hnd⟩ := hW
  have hA : DataW.TrodAll enc Try.prog W 0 (fun _ => true) true Try.f3.params.toList args.toList ds p := hA0
  rw [Try.params3] at hA hval hsz
  obtain ⟨v0, vs0, d0, ds0, p0, q0, hargs, rfl, rfl, h0, r0⟩ := trodAll_cons hA
  obtain ⟨rfl, rfl, rfl⟩ := trodAll_nil r0
  obtain rfl : args = #[v0] := by cases args; simp_all
  obtain ⟨rfl, rfl⟩ := trodVars_none hV
  have hbulk : Rows.uptoBulkAll [d0] ≤ 1048576 := of_decide_eq_true hk
  simp only [Rows.uptoBulkAll] at hbulk
  have k0_ := h0
  have lt0 : ∀ x ∈ p0, x.block < W.heap.size := by obtain ⟨m, hm⟩ := k0_; exact DataW.trod_lt m _ _ _ hm
  have hwt0 := weights_at (j := 0) hsz rfl rfl
  have o0 : Opens Try.prog 26 (Kd.iso (Kd.pair (Kd.int .i64) (Kd.pair (Kd.int .i64) (Kd.pair Kd.bool (Kd.pair Kd.bool (Kd.pair (Kd.int .i64) (Kd.pair (Kd.int .i64) (Kd.pair (Kd.int .i64) (Kd.pair (Kd.iso (Kd.pair Kd.bool (Kd.pair (Kd.int .u64) (Kd.int .u64))) id) (Kd.pair (Kd.iso (Kd.pair Kd.bool (Kd.pair (Kd.int .u64) (Kd.int .u64))) id) (Kd.pair Kd.string Kd.string)))))))))) id) _ _ := (opens_struct Try.underlying26 (by kernel_rfl) (by kernel_rfl) id id (fun _ => rfl) (opens_pair (opens_int Try.underlying3) (opens_pair (opens_int Try.underlying3) (opens_pair (opens_bool Try.underlying4) (opens_pair (opens_bool Try.underlying4) (opens_pair (opens_int Try.underlying3) (opens_pair (opens_int Try.underlying3) (opens_pair (opens_int Try.underlying3) (opens_pair (opens_struct Try.underlying24 (by kernel_rfl) (by kernel_rfl) id id (fun _ => rfl) (opens_pair (opens_bool Try.underlying4) (opens_pair (opens_int Try.underlying22) (opens_one (opens_int Try.underlying22))))) (opens_pair (opens_struct Try.underlying24 (by kernel_rfl) (by kernel_rfl) id id (fun _ => rfl) (opens_pair (opens_bool Try.underlying4) (opens_pair (opens_int Try.underlying22) (opens_one (opens_int Try.underlying22))))) (opens_pair (opens_string Try.underlying9) (opens_one (opens_string Try.underlying9)))))))))))))
  obtain ⟨fuel0, hf0⟩ := h0
  obtain ⟨cs0, rfl, _⟩ := okWide_struct Try.underlying26 (hval 0 26 v0 rfl rfl)
  obtain ⟨⟨a0_0, a0_1, a0_2, a0_3, a0_4, a0_5, a0_6, ⟨a0_7_0, a0_7_1, a0_7_2⟩, ⟨a0_8_0, a0_8_1, a0_8_2⟩, a0_9, a0_10⟩, hK0, ⟨g0_0, g0_1, _, _, g0_4, g0_5, g0_6, ⟨_, g0_7_1, g0_7_2⟩, ⟨_, g0_8_1, g0_8_2⟩, g0_9, g0_10⟩, b0⟩ := o0 hf0 hwt0
  obtain ⟨cs0⟩ := cs0
  obtain ⟨_, _, rfl, rfl, ⟨_, _, rfl, rfl, ⟨_, _, rfl, rfl, ⟨_, _, rfl, rfl, ⟨_, _, rfl, rfl, ⟨_, _, rfl, rfl, ⟨_, _, rfl, rfl, ⟨_, _, rfl, ⟨_, _, rfl, rfl, ⟨_, _, rfl, rfl, rfl⟩⟩, ⟨_, _, rfl, ⟨_, _, rfl, rfl, ⟨_, _, rfl, rfl, rfl⟩⟩, ⟨_, _, rfl, rfl, rfl⟩⟩⟩⟩⟩⟩⟩⟩⟩⟩ := hK0
  clear hA0 hval0 hsz0 hsz hval
  obtain ⟨k, hpure⟩ := Pure.FourLays a0_0 a0_1 a0_2 a0_3 a0_4 a0_5 a0_6 a0_7_0 a0_7_1 a0_7_2 a0_8_0 a0_8_1 a0_8_2 a0_9 a0_10 g0_0 g0_1 g0_4 g0_5 g0_6 g0_7_1 g0_7_2 g0_8_1 g0_8_2 g0_9 g0_10 (by have h_ := Nat.le_trans (Nat.add_le_add b0 (Nat.le_refl 0)) hbulk; (try dsimp only [id] at h_); omega)
  have hcall := crosswaylaw06_FourLays.calls k a0_0 a0_1 a0_2 a0_3 a0_4 a0_5 a0_6 a0_7_0 a0_7_1 a0_7_2 a0_8_0 a0_8_1 a0_8_2 a0_9 a0_10 true W hpure rfl
  refine Calls.mono (show Calls Try.prog 3 #[.agg #[.int .i64 a0_0, .int .i64 a0_1, .bool a0_2, .bool a0_3, .int .i64 a0_4, .int .i64 a0_5, .int .i64 a0_6, .bool a0_7_0, .int .u64 a0_7_1, .int .u64 a0_7_2, .bool a0_8_0, .int .u64 a0_8_1, .int .u64 a0_8_2, .string a0_9, .string a0_10]] W _ from hcall) fun e W' ⟨he, bel⟩ => ?_
  subst he
  exact ⟨_, rfl, _, _, _, [], _, [], hW', trodAll_mk1 (shut_bool Try.underlying4 _), (trodAll_cons_mk (Below.trod laidOut (by kernel_rfl) (of_decide_eq_true (by kernel_rfl)) k0_ bel lt0) trodAll_mk0), rfl, bel.frame _, fun h => by cases h⟩
theorem over : Rows.fourLaysUptoRow.holds Try.pinned (Rows.OpenSpec.upto Rows.fourLaysSpec) :=
  OpenClaim.holds_of_cond 3 Try.f3 rfl rfl rfl rfl rfl rfl rfl ⟨rfl, rfl, rfl, rfl, rfl⟩ rfl rfl rfl rfl rfl (by kernel_rfl) Try.func3 (by kernel_rfl)
    (of_decide_eq_true (by kernel_rfl)) (by unfold Func.isWrapper; first | (rw [if_pos (by decide +kernel)]; kernel_rfl) | (rw [if_neg (by decide +kernel)]; exact ⟨rfl, rfl⟩))
    (fun os started H enc _ F => lifted os started H enc F)
theorem proved : Rows.FourLaysUptoSaid := over
#print axioms proved
end Go.Proofs.Ytedampcicmaamaa.fourLaysUpto
namespace Go.Proofs.Ytedampcicmaamaa
/-- The row, under a short name, for the claim. -/
theorem fourLays_upto_holds : Rows.FourLaysUptoSaid := fourLaysUpto.proved
end Go.Proofs.Ytedampcicmaamaa
