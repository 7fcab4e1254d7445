/-
  The statement IcmpTells: the law 'crossway/crosswaylaw08.IcmpTells' returns true at every input, and its arguments read as they did. Out of the contract of its call and of the pure law. Conditions: none but the statement's own.
-/
import Derived.Test.YtmkjeidejgbicaaRows
import Derived.Test.YtmkjeidejgbicaaPBasex13
import Derived.Test.YtmkjeidejgbicaaPureIcmpTells
import Derived.Test.YtmkjeidejgbicaaMOpen
import Derived.WalkKit
import Derived.ProofKit
import Derived.OpenShut
import Derived.ShutString
import Derived.ChangeOld
import Derived.Below
import Derived.SizedLaws
import Derived.Carry
set_option linter.unusedVariables false
set_option linter.unusedSimpArgs false
namespace Go.Proofs.Ytmkjeidejgbicaa.icmpTells
open Go.ChangeShapes Go.WideShapes Go.ChangeAt Go.RowKit Go.Proofs.Ytmkjeidejgbicaa.MOpen Go.Proofs.Ytmkjeidejgbicaa.PBase Go.Proofs.YtmkjeidejgbicaaW.PrintWords
open Go.ChangeMaps (open_string shut_string)
theorem own : ownKnob Try.prog.godebug = none := by kernel_rfl
theorem laidOut : laidOutB Try.prog = true := by kernel_rfl
set_option maxRecDepth 100000 in
theorem lifted (os : Os) (started : os.Started) (H : Type) (enc : TypeId × Value → H) :
    ReturnsInHanded {} Try.checked os 5 .any (Rows.icmpTellsSpec.pre6 enc Try.prog Try.f5 Rows.icmpTellsRow.domain false) (Rows.icmpTellsSpec.post enc Try.prog Try.f5 false true false false) := by
  refine returnsInHanded_of_change_sized (C := Try.checked) own started (by kernel_rfl) Try.func5
    (ChangeSpec.witness6 (enc := enc) (C := Try.checked) false ⟨#[], #[.agg #[.bool false, .int .i64 0, .int .i64 0, .int .i64 0, .string ByteArray.empty]], []⟩ 8 (by kernel_rfl) (by kernel_rfl) (by kernel_rfl) (by kernel_rfl)) ?_
  intro W base args ds gs before hval0 hW hcnd hsz0 _
  have hsz : (DataW.weightsEach Try.prog (Try.f5.params.toList ++ Rows.icmpTellsSpec.plain.varTypes Try.prog) (ds ++ gs)).all (· ≤ reachBytes) = true := hsz0
  have hval : ∀ (j : Nat) t v, Try.f5.params[j]? = some t → args[j]? = some v → Value.okWide Try.prog W .any base t v := hval0
  have hW' := hW
  obtain ⟨p, q, hA0, hV, rfl, hfz, hnd⟩ := hW
  have hA : DataW.TrodAll enc Try.prog W 0 (fun _ => true) true Try.f5.params.toList args.toList ds p := hA0
  rw [Try.params5] at hA hval hsz
  obtain ⟨v0, vs0, d0, ds0, p0, q0, hargs, rfl, rfl, h0, r0⟩ := trodAll_cons hA
  obtain ⟨rfl, rfl, rfl⟩ := trodAll_nil r0
  obtain rfl : args = #[v0] := by cases args; simp_all
  obtain ⟨rfl, rfl⟩ := trodVars_none hV
  have k0_ := h0
  have lt0 : ∀ x ∈ p0, x.block < W.heap.size := by obtain ⟨m, hm⟩ := k0_; exact DataW.trod_lt m _ _ _ hm
  have hwt0 := weights_at (j := 0) hsz rfl rfl
  have o0 : Opens Try.prog 23 (Kd.iso (Kd.pair Kd.bool (Kd.pair (Kd.int .i64) (Kd.pair (Kd.int .i64) (Kd.pair (Kd.int .i64) Kd.string)))) id) _ _ := (opens_struct Try.underlying23 (by kernel_rfl) (by kernel_rfl) id id (fun _ => rfl) (opens_pair (opens_bool Try.underlying4) (opens_pair (opens_int Try.underlying3) (opens_pair (opens_int Try.underlying3) (opens_pair (opens_int Try.underlying3) (opens_one (opens_string Try.underlying9)))))))
  obtain ⟨fuel0, hf0⟩ := h0
  obtain ⟨cs0, rfl, _⟩ := okWide_struct Try.underlying23 (hval 0 23 v0 rfl rfl)
  obtain ⟨⟨a0_0, a0_1, a0_2, a0_3, a0_4⟩, hK0, ⟨_, g0_1, g0_2, g0_3, g0_4⟩, b0⟩ := o0 hf0 hwt0
  obtain ⟨cs0⟩ := cs0
  obtain ⟨_, _, rfl, rfl, ⟨_, _, rfl, rfl, ⟨_, _, rfl, rfl, ⟨_, _, rfl, rfl, rfl⟩⟩⟩⟩ := hK0
  clear hA0 hval0 hsz0 hsz hval
  obtain ⟨k, hpure⟩ := Pure.IcmpTells a0_0 a0_1 a0_2 a0_3 a0_4 g0_1 g0_2 g0_3 g0_4
  have hcall := crosswaylaw08_IcmpTells.calls k a0_0 a0_1 a0_2 a0_3 a0_4 true W hpure rfl
  refine Calls.mono (show Calls Try.prog 5 #[.agg #[.bool a0_0, .int .i64 a0_1, .int .i64 a0_2, .int .i64 a0_3, .string a0_4]] W _ from hcall) fun e W' ⟨he, bel⟩ => ?_
  subst he
  exact ⟨_, rfl, _, _, _, [], _, [], hW', trodAll_mk1 (shut_bool Try.underlying4 _), (trodAll_cons_mk (Below.trod laidOut (by kernel_rfl) (of_decide_eq_true (by kernel_rfl)) k0_ bel lt0) trodAll_mk0), rfl, bel.frame _, fun h => by cases h⟩
theorem over : Rows.icmpTellsRow.holds Try.pinned (OpenSpec.ofChange Rows.icmpTellsSpec) :=
  OpenClaim.holds_of_wide 5 Try.f5 rfl rfl rfl rfl rfl rfl rfl ⟨rfl, rfl, rfl, rfl, rfl⟩ rfl rfl rfl rfl rfl (by kernel_rfl) Try.func5 (by kernel_rfl)
    (of_decide_eq_true (by kernel_rfl)) (by unfold Func.isWrapper; first | (rw [if_pos (by decide +kernel)]; kernel_rfl) | (rw [if_neg (by decide +kernel)]; exact ⟨rfl, rfl⟩))
    (fun os started H enc _ => lifted os started H enc)
theorem proved : Rows.IcmpTellsSaid := over
#print axioms proved
end Go.Proofs.Ytmkjeidejgbicaa.icmpTells
namespace Go.Proofs.Ytmkjeidejgbicaa
/-- The row, under a short name, for the claim. -/
theorem icmpTells_holds : Rows.IcmpTellsSaid := icmpTells.proved
end Go.Proofs.Ytmkjeidejgbicaa
