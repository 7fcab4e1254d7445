/-
  The statement FourBackUpto: the law 'crossway/crosswaylaw06.FourBack' returns true at every input of bulk at most 1048576, and its arguments read as they did. Out of the contract of its call and of the pure law. Conditions: none but the statement's own.
-/
import Derived.Test.YtedampcicmaamaaRows
import Derived.Test.YtedampcicmaamaaPBasex17
import Derived.Test.YtedampcicmaamaaPureFourBack
import Derived.Test.YtedampcicmaamaaMOpen
import Derived.WalkKit
import Derived.ProofKit
import Derived.OpenShut
import Derived.ShutString
import Derived.ChangeOld
import Derived.Below
import Derived.SizedLaws
import Derived.Carry
import Derived.JoinedCond
import Derived.Deep.CondSized
set_option linter.unusedVariables false
set_option linter.unusedSimpArgs false
namespace Go.Proofs.Ytedampcicmaamaa.fourBackUpto
open Go.ChangeShapes Go.WideShapes Go.ChangeAt Go.RowKit Go.Proofs.Ytedampcicmaamaa.MOpen Go.Proofs.Ytedampcicmaamaa.PBase Go.Proofs.YtedampcicmaamaaW.PrintWords
open Go.ChangeMaps (open_string shut_string)
theorem own : ownKnob Try.prog.godebug = none := by kernel_rfl
theorem laidOut : laidOutB Try.prog = true := by kernel_rfl
set_option maxRecDepth 100000 in
theorem lifted (os : Os) (started : os.Started) (H : Type) (enc : TypeId × Value → H) (F : Stop.Interp) :
    ReturnsInHanded {} Try.checked os 6 .any ((Rows.OpenSpec.upto Rows.fourBackSpec).pre6 enc Try.prog Try.f6 Rows.fourBackUptoRow.domain false) (((Rows.OpenSpec.upto Rows.fourBackSpec).at F).post enc Try.prog Try.f6 false true false false) := by
  refine returnsInHanded_of_cond_sized (C := Try.checked) (s := Rows.OpenSpec.upto Rows.fourBackSpec) (k := Rows.uptoSmall) rfl own started (by kernel_rfl) Try.func6
    (OpenSpec.witness (enc := enc) (C := Try.checked) (s := Rows.OpenSpec.upto Rows.fourBackSpec) (k := Rows.uptoSmall) rfl false ⟨#[], #[.agg #[.int .i64 0, .int .i64 0, .bool false, .bool false, .int .i64 0, .int .i64 0, .int .i64 0, .bool false, .int .u64 0, .int .u64 0, .bool false, .int .u64 0, .int .u64 0, .string ByteArray.empty, .string ByteArray.empty], .string ByteArray.empty, .int .i64 0], []⟩ 8 (by kernel_rfl) (by kernel_rfl) (by kernel_rfl)
      (x := ([.agg [.lit (.int .i64 0), .lit (.int .i64 0), .lit (.bool false), .lit (.bool false), .lit (.int .i64 0), .lit (.int .i64 0), .lit (.int .i64 0), .agg [.lit (.bool false), .lit (.int .u64 0), .lit (.int .u64 0)], .agg [.lit (.bool false), .lit (.int .u64 0), .lit (.int .u64 0)], .lit (.string []), .lit (.string [])], .lit (.string []), .lit (.int .i64 0)], [], [])) (by kernel_rfl) rfl (by kernel_rfl)) ?_
  intro W base args ds gs before hval0 hW hcnd hk hsz0 _
  have hsz : (DataW.weightsEach Try.prog (Try.f6.params.toList ++ (Rows.OpenSpec.upto Rows.fourBackSpec).bare.plain.varTypes Try.prog) (ds ++ gs)).all (· ≤ reachBytes) = true := hsz0
  have hval : ∀ (j : Nat) t v, Try.f6.params[j]? = some t → args[j]? = some v → Value.okWide Try.prog W .any base t v := hval0
  have hW' := hW
  obtain ⟨p, q, hA0, hV, rfl, hfz, hnd⟩ := hW
  have hA : DataW.TrodAll enc Try.prog W 0 (fun _ => true) true Try.f6.params.toList args.toList ds p := hA0
  rw [Try.params6] at hA hval hsz
  obtain ⟨v0, vs0, d0, ds0, p0, q0, hargs, rfl, rfl, h0, r0⟩ := trodAll_cons hA
  obtain ⟨v1, vs1, d1, ds1, p1, q1, rfl, rfl, rfl, h1, r1⟩ := trodAll_cons r0
  obtain ⟨v2, vs2, d2, ds2, p2, q2, rfl, rfl, rfl, h2, r2⟩ := trodAll_cons r1
  obtain ⟨rfl, rfl, rfl⟩ := trodAll_nil r2
  obtain rfl : args = #[v0, v1, v2] := by cases args; simp_all
  obtain ⟨rfl, rfl⟩ := trodVars_none hV
  have hbulk : Rows.uptoBulkAll [d0, d1, d2] ≤ 1048576 := of_decide_eq_true hk
  simp only [Rows.uptoBulkAll] at hbulk
  have k0_ := h0
  have lt0 : ∀ x ∈ p0, x.block < W.heap.size := by obtain ⟨m, hm⟩ := k0_; exact DataW.trod_lt m _ _ _ hm
  have hwt0 := weights_at (j := 0) hsz rfl rfl
  have o0 : Opens Try.prog 26 (Kd.iso (Kd.pair (Kd.int .i64) (Kd.pair (Kd.int .i64) (Kd.pair Kd.bool (Kd.pair Kd.bool (Kd.pair (Kd.int .i64) (Kd.pair (Kd.int .i64) (Kd.pair (Kd.int .i64) (Kd.pair (Kd.iso (Kd.pair Kd.bool (Kd.pair (Kd.int .u64) (Kd.int .u64))) id) (Kd.pair (Kd.iso (Kd.pair Kd.bool (Kd.pair (Kd.int .u64) (Kd.int .u64))) id) (Kd.pair Kd.string Kd.string)))))))))) id) _ _ := (opens_struct Try.underlying26 (by kernel_rfl) (by kernel_rfl) id id (fun _ => rfl) (opens_pair (opens_int Try.underlying3) (opens_pair (opens_int Try.underlying3) (opens_pair (opens_bool Try.underlying4) (opens_pair (opens_bool Try.underlying4) (opens_pair (opens_int Try.underlying3) (opens_pair (opens_int Try.underlying3) (opens_pair (opens_int Try.underlying3) (opens_pair (opens_struct Try.underlying24 (by kernel_rfl) (by kernel_rfl) id id (fun _ => rfl) (opens_pair (opens_bool Try.underlying4) (opens_pair (opens_int Try.underlying22) (opens_one (opens_int Try.underlying22))))) (opens_pair (opens_struct Try.underlying24 (by kernel_rfl) (by kernel_rfl) id id (fun _ => rfl) (opens_pair (opens_bool Try.underlying4) (opens_pair (opens_int Try.underlying22) (opens_one (opens_int Try.underlying22))))) (opens_pair (opens_string Try.underlying9) (opens_one (opens_string Try.underlying9)))))))))))))
  obtain ⟨fuel0, hf0⟩ := h0
  obtain ⟨cs0, rfl, _⟩ := okWide_struct Try.underlying26 (hval 0 26 v0 rfl rfl)
  obtain ⟨⟨a0_0, a0_1, a0_2, a0_3, a0_4, a0_5, a0_6, ⟨a0_7_0, a0_7_1, a0_7_2⟩, ⟨a0_8_0, a0_8_1, a0_8_2⟩, a0_9, a0_10⟩, hK0, ⟨g0_0, g0_1, _, _, g0_4, g0_5, g0_6, ⟨_, g0_7_1, g0_7_2⟩, ⟨_, g0_8_1, g0_8_2⟩, g0_9, g0_10⟩, b0⟩ := o0 hf0 hwt0
  obtain ⟨cs0⟩ := cs0
  obtain ⟨_, _, rfl, rfl, ⟨_, _, rfl, rfl, ⟨_, _, rfl, rfl, ⟨_, _, rfl, rfl, ⟨_, _, rfl, rfl, ⟨_, _, rfl, rfl, ⟨_, _, rfl, rfl, ⟨_, _, rfl, ⟨_, _, rfl, rfl, ⟨_, _, rfl, rfl, rfl⟩⟩, ⟨_, _, rfl, ⟨_, _, rfl, rfl, ⟨_, _, rfl, rfl, rfl⟩⟩, ⟨_, _, rfl, rfl, rfl⟩⟩⟩⟩⟩⟩⟩⟩⟩⟩ := hK0
  have k1_ := h1
  have lt1 : ∀ x ∈ p1, x.block < W.heap.size := by obtain ⟨m, hm⟩ := k1_; exact DataW.trod_lt m _ _ _ hm
  have hwt1 := weights_at (j := 1) hsz rfl rfl
  have o1 : Opens Try.prog 9 Kd.string _ _ := (opens_string Try.underlying9)
  obtain ⟨fuel1, hf1⟩ := h1
  obtain ⟨v1_, rfl⟩ : ∃ s, v1 = .string s := by obtain ⟨s, e, _⟩ := open_string Try.underlying9 (hval 1 9 v1 rfl rfl) k1_; exact ⟨s, e⟩
  obtain ⟨a1, hK1, g1, b1⟩ := o1 hf1 hwt1
  have hcs1 : [Value.string v1_] = [Value.string a1] := hK1
  simp only [List.cons.injEq, Value.string.injEq, and_true] at hcs1
  subst hcs1
  obtain ⟨a2, rfl, rfl, rfl, w2⟩ := open_int Try.underlying3 (hval 2 3 v2 rfl rfl) h2
  have b2 : 1 ≤ Rows.uptoBulk (DataW.lit (H := H) (.int .i64 a2)) := by simp [Rows.uptoBulk]
  clear hA0 hval0 hsz0 hsz hval
  obtain ⟨k, hpure⟩ := Pure.FourBack a0_0 a0_1 a0_2 a0_3 a0_4 a0_5 a0_6 a0_7_0 a0_7_1 a0_7_2 a0_8_0 a0_8_1 a0_8_2 a0_9 a0_10 v1_ a2 g0_0 g0_1 g0_4 g0_5 g0_6 g0_7_1 g0_7_2 g0_8_1 g0_8_2 g0_9 g0_10 g1 w2 (by have h_ := Nat.le_trans (Nat.add_le_add b0 (Nat.add_le_add b1 (Nat.add_le_add b2 (Nat.le_refl 0)))) hbulk; (try dsimp only [id] at h_); omega)
  have hcall := crosswaylaw06_FourBack.calls k a0_0 a0_1 a0_2 a0_3 a0_4 a0_5 a0_6 a0_7_0 a0_7_1 a0_7_2 a0_8_0 a0_8_1 a0_8_2 a0_9 a0_10 v1_ a2 true W hpure rfl
  refine Calls.mono (show Calls Try.prog 6 #[.agg #[.int .i64 a0_0, .int .i64 a0_1, .bool a0_2, .bool a0_3, .int .i64 a0_4, .int .i64 a0_5, .int .i64 a0_6, .bool a0_7_0, .int .u64 a0_7_1, .int .u64 a0_7_2, .bool a0_8_0, .int .u64 a0_8_1, .int .u64 a0_8_2, .string a0_9, .string a0_10], .string v1_, .int .i64 a2] W _ from hcall) fun e W' ⟨he, bel⟩ => ?_
  subst he
  exact ⟨_, rfl, _, _, _, [], _, [], hW', trodAll_mk1 (shut_bool Try.underlying4 _), (trodAll_cons_mk (Below.trod laidOut (by kernel_rfl) (of_decide_eq_true (by kernel_rfl)) k0_ bel lt0) (trodAll_cons_mk (Below.trod laidOut (by kernel_rfl) (of_decide_eq_true (by kernel_rfl)) k1_ bel lt1) (trodAll_cons_mk (shut_int Try.underlying3 w2) trodAll_mk0))), rfl, bel.frame _, fun h => by cases h⟩
theorem over : Rows.fourBackUptoRow.holds Try.pinned (Rows.OpenSpec.upto Rows.fourBackSpec) :=
  OpenClaim.holds_of_cond 6 Try.f6 rfl rfl rfl rfl rfl rfl rfl ⟨rfl, rfl, rfl, rfl, rfl⟩ rfl rfl rfl rfl rfl (by kernel_rfl) Try.func6 (by kernel_rfl)
    (of_decide_eq_true (by kernel_rfl)) (by unfold Func.isWrapper; first | (rw [if_pos (by decide +kernel)]; kernel_rfl) | (rw [if_neg (by decide +kernel)]; exact ⟨rfl, rfl⟩))
    (fun os started H enc _ F => lifted os started H enc F)
theorem proved : Rows.FourBackUptoSaid := over
#print axioms proved
end Go.Proofs.Ytedampcicmaamaa.fourBackUpto
namespace Go.Proofs.Ytedampcicmaamaa
/-- The row, under a short name, for the claim. -/
theorem fourBack_upto_holds : Rows.FourBackUptoSaid := fourBackUpto.proved
end Go.Proofs.Ytedampcicmaamaa
