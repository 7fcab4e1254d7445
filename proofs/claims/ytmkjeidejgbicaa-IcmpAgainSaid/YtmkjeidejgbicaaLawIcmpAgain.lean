/-
  The statement IcmpAgain: the law 'crossway/crosswaylaw08.IcmpAgain' returns true at every input, and its arguments read as they did. Out of the contract of its call and of the pure law. Conditions: none but the statement's own.
-/
import Derived.Test.YtmkjeidejgbicaaRows
import Derived.Test.YtmkjeidejgbicaaPBasex5
import Derived.Test.YtmkjeidejgbicaaPureIcmpAgain
import Derived.Test.YtmkjeidejgbicaaMOpen
import Derived.WalkKit
import Derived.ProofKit
import Derived.OpenShut
import Derived.ShutString
import Derived.ChangeOld
import Derived.Below
import Derived.SizedLaws
import Derived.Carry
set_option linter.unusedVariables false
set_option linter.unusedSimpArgs false
namespace Go.Proofs.Ytmkjeidejgbicaa.icmpAgain
open Go.ChangeShapes Go.WideShapes Go.ChangeAt Go.RowKit Go.Proofs.Ytmkjeidejgbicaa.MOpen Go.Proofs.Ytmkjeidejgbicaa.PBase Go.Proofs.YtmkjeidejgbicaaW.PrintWords
open Go.ChangeMaps (open_string shut_string)
theorem own : ownKnob Try.prog.godebug = none := by kernel_rfl
theorem laidOut : laidOutB Try.prog = true := by kernel_rfl
set_option maxRecDepth 100000 in
theorem lifted (os : Os) (started : os.Started) (H : Type) (enc : TypeId × Value → H) :
    ReturnsInHanded {} Try.checked os 9 .any (Rows.icmpAgainSpec.pre6 enc Try.prog Try.f9 Rows.icmpAgainRow.domain false) (Rows.icmpAgainSpec.post enc Try.prog Try.f9 false true false false) := by
  refine returnsInHanded_of_change_sized (C := Try.checked) own started (by kernel_rfl) Try.func9
    (ChangeSpec.witness6 (enc := enc) (C := Try.checked) false ⟨#[], #[.string ByteArray.empty, .bool false, .agg #[.bool false, .int .u64 0, .int .u64 0, .bool false, .int .u64 0, .int .u64 0]], []⟩ 8 (by kernel_rfl) (by kernel_rfl) (by kernel_rfl) (by kernel_rfl)) ?_
  intro W base args ds gs before hval0 hW hcnd hsz0 _
  have hsz : (DataW.weightsEach Try.prog (Try.f9.params.toList ++ Rows.icmpAgainSpec.plain.varTypes Try.prog) (ds ++ gs)).all (· ≤ reachBytes) = true := hsz0
  have hval : ∀ (j : Nat) t v, Try.f9.params[j]? = some t → args[j]? = some v → Value.okWide Try.prog W .any base t v := hval0
  have hW' := hW
  obtain ⟨p, q, hA0, hV, rfl, hfz, hnd⟩ := hW
  have hA : DataW.TrodAll enc Try.prog W 0 (fun _ => true) true Try.f9.params.toList args.toList ds p := hA0
  rw [Try.params9] at hA hval hsz
  obtain ⟨v0, vs0, d0, ds0, p0, q0, hargs, rfl, rfl, h0, r0⟩ := trodAll_cons hA
  obtain ⟨v1, vs1, d1, ds1, p1, q1, rfl, rfl, rfl, h1, r1⟩ := trodAll_cons r0
  obtain ⟨v2, vs2, d2, ds2, p2, q2, rfl, rfl, rfl, h2, r2⟩ := trodAll_cons r1
  obtain ⟨rfl, rfl, rfl⟩ := trodAll_nil r2
  obtain rfl : args = #[v0, v1, v2] := by cases args; simp_all
  obtain ⟨rfl, rfl⟩ := trodVars_none hV
  have k0_ := h0
  have lt0 : ∀ x ∈ p0, x.block < W.heap.size := by obtain ⟨m, hm⟩ := k0_; exact DataW.trod_lt m _ _ _ hm
  have hwt0 := weights_at (j := 0) hsz rfl rfl
  have o0 : Opens Try.prog 9 Kd.string _ _ := (opens_string Try.underlying9)
  obtain ⟨fuel0, hf0⟩ := h0
  obtain ⟨v0_, rfl⟩ : ∃ s, v0 = .string s := by obtain ⟨s, e, _⟩ := open_string Try.underlying9 (hval 0 9 v0 rfl rfl) k0_; exact ⟨s, e⟩
  obtain ⟨a0, hK0, g0, b0⟩ := o0 hf0 hwt0
  have hcs0 : [Value.string v0_] = [Value.string a0] := hK0
  simp only [List.cons.injEq, Value.string.injEq, and_true] at hcs0
  subst hcs0
  obtain ⟨a1, rfl, rfl, rfl⟩ := open_bool Try.underlying4 (hval 1 4 v1 rfl rfl) h1
  have k2_ := h2
  have lt2 : ∀ x ∈ p2, x.block < W.heap.size := by obtain ⟨m, hm⟩ := k2_; exact DataW.trod_lt m _ _ _ hm
  have hwt2 := weights_at (j := 2) hsz rfl rfl
  have o2 : Opens Try.prog 28 (Kd.iso (Kd.pair (Kd.iso (Kd.pair Kd.bool (Kd.pair (Kd.int .u64) (Kd.int .u64))) id) (Kd.iso (Kd.pair Kd.bool (Kd.pair (Kd.int .u64) (Kd.int .u64))) id)) id) _ _ := (opens_struct Try.underlying28 (by kernel_rfl) (by kernel_rfl) id id (fun _ => rfl) (opens_pair (opens_struct Try.underlying26 (by kernel_rfl) (by kernel_rfl) id id (fun _ => rfl) (opens_pair (opens_bool Try.underlying4) (opens_pair (opens_int Try.underlying24) (opens_one (opens_int Try.underlying24))))) (opens_one (opens_struct Try.underlying26 (by kernel_rfl) (by kernel_rfl) id id (fun _ => rfl) (opens_pair (opens_bool Try.underlying4) (opens_pair (opens_int Try.underlying24) (opens_one (opens_int Try.underlying24))))))))
  obtain ⟨fuel2, hf2⟩ := h2
  obtain ⟨cs2, rfl, _⟩ := okWide_struct Try.underlying28 (hval 2 28 v2 rfl rfl)
  obtain ⟨⟨⟨a2_0_0, a2_0_1, a2_0_2⟩, ⟨a2_1_0, a2_1_1, a2_1_2⟩⟩, hK2, ⟨⟨_, g2_0_1, g2_0_2⟩, ⟨_, g2_1_1, g2_1_2⟩⟩, b2⟩ := o2 hf2 hwt2
  obtain ⟨cs2⟩ := cs2
  obtain ⟨_, _, rfl, ⟨_, _, rfl, rfl, ⟨_, _, rfl, rfl, rfl⟩⟩, ⟨_, _, rfl, rfl, ⟨_, _, rfl, rfl, rfl⟩⟩⟩ := hK2
  clear hA0 hval0 hsz0 hsz hval
  have hcall := Pure.again_calls v0_ a1 a2_0_0 a2_0_1 a2_0_2 a2_1_0 a2_1_1 a2_1_2 g0 g2_0_1 g2_0_2 g2_1_1 g2_1_2 W 
  refine Calls.mono (show Calls Try.prog 9 #[.string v0_, .bool a1, .agg #[.bool a2_0_0, .int .u64 a2_0_1, .int .u64 a2_0_2, .bool a2_1_0, .int .u64 a2_1_1, .int .u64 a2_1_2]] W _ from hcall) fun e W' ⟨he, bel⟩ => ?_
  subst he
  exact ⟨_, rfl, _, _, _, [], _, [], hW', trodAll_mk1 (shut_bool Try.underlying4 _), (trodAll_cons_mk (Below.trod laidOut (by kernel_rfl) (of_decide_eq_true (by kernel_rfl)) k0_ bel lt0) (trodAll_cons_mk (shut_bool Try.underlying4 _) (trodAll_cons_mk (Below.trod laidOut (by kernel_rfl) (of_decide_eq_true (by kernel_rfl)) k2_ bel lt2) trodAll_mk0))), rfl, bel.frame _, fun h => by cases h⟩
theorem over : Rows.icmpAgainRow.holds Try.pinned (OpenSpec.ofChange Rows.icmpAgainSpec) :=
  OpenClaim.holds_of_wide 9 Try.f9 rfl rfl rfl rfl rfl rfl rfl ⟨rfl, rfl, rfl, rfl, rfl⟩ rfl rfl rfl rfl rfl (by kernel_rfl) Try.func9 (by kernel_rfl)
    (of_decide_eq_true (by kernel_rfl)) (by unfold Func.isWrapper; first | (rw [if_pos (by decide +kernel)]; kernel_rfl) | (rw [if_neg (by decide +kernel)]; exact ⟨rfl, rfl⟩))
    (fun os started H enc _ => lifted os started H enc)
theorem proved : Rows.IcmpAgainSaid := over
#print axioms proved
end Go.Proofs.Ytmkjeidejgbicaa.icmpAgain
namespace Go.Proofs.Ytmkjeidejgbicaa
/-- The row, under a short name, for the claim. -/
theorem icmpAgain_holds : Rows.IcmpAgainSaid := icmpAgain.proved
end Go.Proofs.Ytmkjeidejgbicaa
