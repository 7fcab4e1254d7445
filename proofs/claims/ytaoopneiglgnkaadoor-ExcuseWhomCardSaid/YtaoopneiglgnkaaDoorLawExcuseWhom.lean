/-
  The statement ExcuseWhom: the law 'crossway/crosswaylaw20.ExcuseWhom' returns true at every input, and its arguments read as they did. Out of the contract of its call and of the pure law. Conditions: none but the statement's own.
-/
import Derived.Test.YtaoopneiglgnkaaDoorRows
import Derived.Test.YtaoopneiglgnkaaDoorWWhom
import Derived.Test.YtaoopneiglgnkaaDoorWWhom
import Derived.Test.YtaoopneiglgnkaaDoorMOpen
import Derived.WalkKit
import Derived.ProofKit
import Derived.OpenShut
import Derived.ShutString
import Derived.ChangeOld
import Derived.Below
import Derived.SizedLaws
import Derived.Carry
import Derived.Test.YtaoopneiglgnkaaDoorMGlob20
import Derived.Test.YtaoopneiglgnkaaDoorTie
import Derived.Test.YtaoopneiglgnkaaDoorCards
import Derived.LaidMore
import Derived.Lay
import Derived.SevenTiedAt
import Derived.MakeChecks
import Derived.Handed
set_option linter.unusedVariables false
set_option linter.unusedSimpArgs false
namespace Go.Proofs.YtaoopneiglgnkaaDoor.excuseWhom
open Go.ChangeShapes Go.WideShapes Go.ChangeAt Go.RowKit Go.Proofs.YtaoopneiglgnkaaDoor.MOpen Go.Proofs.YtaoopneiglgnkaaDoor.WQ Go.Proofs.YtaoopneiglgnkaaDoorW.PrintWords
open Go.ChangeMaps (open_string shut_string)
theorem own : ownKnob Tryd.prog.godebug = none := by kernel_rfl
theorem laidOut : laidOutB Tryd.prog = true := by kernel_rfl
set_option maxRecDepth 100000 in
theorem lifted (os : Os) (started : os.Started) (H : Type) (enc : TypeId × Value → H) :
    ReturnsInHanded {} Tryd.checked os 7 .any (fun w args => (Rows.excuseWhomSpec.pre enc Tryd.prog Tryd.f7 Rows.excuseWhomRow.domain false w args ∧ laidMetH Tryd.prog Rows.excuseWhomRow.laid w) ∧ sizedMet enc Tryd.prog Tryd.f7 (OpenSpec.ofChange Rows.excuseWhomSpec) false w args) (Rows.excuseWhomSpec.post enc Tryd.prog Tryd.f7 false true false false) := by
  refine returnsInHanded_of_change_and (C := Tryd.checked) (X := fun w _ => laidMetH Tryd.prog Rows.excuseWhomRow.laid w) (fun _ _ _ hh h => h.of_heap hh) own started (by kernel_rfl) Tryd.func7
    (ChangeSpec.witness_shaped (enc := enc) (C := Tryd.checked) (os := os) (X := fun w _ => laidMetH Tryd.prog Rows.excuseWhomRow.laid w) false (World.laidAll Tryd.prog os Rows.excuseWhomRow.laid) #[.agg #[.int .i64 0, .int .i64 0, .bool false, .bool false, .int .i64 0, .int .i64 0, .int .i64 0, .bool false, .int .u64 0, .int .u64 0, .bool false, .int .u64 0, .int .u64 0, .string ByteArray.empty, .string ByteArray.empty], .int .i64 0, .string ByteArray.empty] 8 (World.laidAll_os _ _ _)
      (World.shaped_of_ZipB (by kernel_rfl) (by kernel_rfl)) (by kernel_rfl) (by kernel_rfl) (by kernel_rfl)
      (by rw [MakeChecks.laidMetH_plain _ _ _ (by kernel_rfl)]; exact laidMet_laidAll _ (by kernel_rfl) (by kernel_rfl))) ?_
  intro W base args ds gs before hval0 hW hcnd hsz0 hL _
  have hsz : (DataW.weightsEach Tryd.prog (Tryd.f7.params.toList ++ Rows.excuseWhomSpec.plain.varTypes Tryd.prog) (ds ++ gs)).all (· ≤ reachBytes) = true := hsz0
  have hval : ∀ (j : Nat) t v, Tryd.f7.params[j]? = some t → args[j]? = some v → Value.okWide Tryd.prog W .any base t v := hval0
  have hW' := hW
  obtain ⟨p, q, hA0, hV, rfl, hfz, hnd⟩ := hW
  have hA : DataW.TrodAll enc Tryd.prog W 0 (fun _ => true) true Tryd.f7.params.toList args.toList ds p := hA0
  rw [Tryd.params7] at hA hval hsz
  obtain ⟨v0, vs0, d0, ds0, p0, q0, hargs, rfl, rfl, h0, r0⟩ := trodAll_cons hA
  obtain ⟨v1, vs1, d1, ds1, p1, q1, rfl, rfl, rfl, h1, r1⟩ := trodAll_cons r0
  obtain ⟨v2, vs2, d2, ds2, p2, q2, rfl, rfl, rfl, h2, r2⟩ := trodAll_cons r1
  obtain ⟨rfl, rfl, rfl⟩ := trodAll_nil r2
  obtain rfl : args = #[v0, v1, v2] := by cases args; simp_all
  obtain ⟨rfl, rfl⟩ := trodVars_none hV
  have k0_ := h0
  have lt0 : ∀ x ∈ p0, x.block < W.heap.size := by obtain ⟨m, hm⟩ := k0_; exact DataW.trod_lt m _ _ _ hm
  have hwt0 := weights_at (j := 0) hsz rfl rfl
  have o0 : Opens Tryd.prog 37 (Kd.iso (Kd.pair (Kd.int .i64) (Kd.pair (Kd.int .i64) (Kd.pair Kd.bool (Kd.pair Kd.bool (Kd.pair (Kd.int .i64) (Kd.pair (Kd.int .i64) (Kd.pair (Kd.int .i64) (Kd.pair (Kd.iso (Kd.pair Kd.bool (Kd.pair (Kd.int .u64) (Kd.int .u64))) id) (Kd.pair (Kd.iso (Kd.pair Kd.bool (Kd.pair (Kd.int .u64) (Kd.int .u64))) id) (Kd.pair Kd.string Kd.string)))))))))) id) _ _ := (opens_struct Tryd.underlying37 (by kernel_rfl) (by kernel_rfl) id id (fun _ => rfl) (opens_pair (opens_int Tryd.underlying3) (opens_pair (opens_int Tryd.underlying3) (opens_pair (opens_bool Tryd.underlying4) (opens_pair (opens_bool Tryd.underlying4) (opens_pair (opens_int Tryd.underlying3) (opens_pair (opens_int Tryd.underlying3) (opens_pair (opens_int Tryd.underlying3) (opens_pair (opens_struct Tryd.underlying28 (by kernel_rfl) (by kernel_rfl) id id (fun _ => rfl) (opens_pair (opens_bool Tryd.underlying4) (opens_pair (opens_int Tryd.underlying26) (opens_one (opens_int Tryd.underlying26))))) (opens_pair (opens_struct Tryd.underlying28 (by kernel_rfl) (by kernel_rfl) id id (fun _ => rfl) (opens_pair (opens_bool Tryd.underlying4) (opens_pair (opens_int Tryd.underlying26) (opens_one (opens_int Tryd.underlying26))))) (opens_pair (opens_string Tryd.underlying9) (opens_one (opens_string Tryd.underlying9)))))))))))))
  obtain ⟨fuel0, hf0⟩ := h0
  obtain ⟨cs0, rfl, _⟩ := okWide_struct Tryd.underlying37 (hval 0 37 v0 rfl rfl)
  obtain ⟨⟨a0_0, a0_1, a0_2, a0_3, a0_4, a0_5, a0_6, ⟨a0_7_0, a0_7_1, a0_7_2⟩, ⟨a0_8_0, a0_8_1, a0_8_2⟩, a0_9, a0_10⟩, hK0, ⟨g0_0, g0_1, _, _, g0_4, g0_5, g0_6, ⟨_, g0_7_1, g0_7_2⟩, ⟨_, g0_8_1, g0_8_2⟩, g0_9, g0_10⟩, b0⟩ := o0 hf0 hwt0
  obtain ⟨cs0⟩ := cs0
  obtain ⟨_, _, rfl, rfl, ⟨_, _, rfl, rfl, ⟨_, _, rfl, rfl, ⟨_, _, rfl, rfl, ⟨_, _, rfl, rfl, ⟨_, _, rfl, rfl, ⟨_, _, rfl, rfl, ⟨_, _, rfl, ⟨_, _, rfl, rfl, ⟨_, _, rfl, rfl, rfl⟩⟩, ⟨_, _, rfl, ⟨_, _, rfl, rfl, ⟨_, _, rfl, rfl, rfl⟩⟩, ⟨_, _, rfl, rfl, rfl⟩⟩⟩⟩⟩⟩⟩⟩⟩⟩ := hK0
  obtain ⟨a1, rfl, rfl, rfl, w1⟩ := open_int Tryd.underlying3 (hval 1 3 v1 rfl rfl) h1
  have k2_ := h2
  have lt2 : ∀ x ∈ p2, x.block < W.heap.size := by obtain ⟨m, hm⟩ := k2_; exact DataW.trod_lt m _ _ _ hm
  have hwt2 := weights_at (j := 2) hsz rfl rfl
  have o2 : Opens Tryd.prog 9 Kd.string _ _ := (opens_string Tryd.underlying9)
  obtain ⟨fuel2, hf2⟩ := h2
  obtain ⟨v2_, rfl⟩ : ∃ s, v2 = .string s := by obtain ⟨s, e, _⟩ := open_string Tryd.underlying9 (hval 2 9 v2 rfl rfl) k2_; exact ⟨s, e⟩
  obtain ⟨a2, hK2, g2, b2⟩ := o2 hf2 hwt2
  have hcs2 : [Value.string v2_] = [Value.string a2] := hK2
  simp only [List.cons.injEq, Value.string.injEq, and_true] at hcs2
  subst hcs2
  clear hA0 hval0 hsz0 hsz hval
  have hcall := WQ.whomCalls a0_0 a0_1 a0_2 a0_3 a0_4 a0_5 a0_6 a0_7_0 a0_7_1 a0_7_2 a0_8_0 a0_8_1 a0_8_2 a0_9 a0_10 a1 v2_ g0_0 g0_1 g0_4 g0_5 g0_6 g0_7_1 g0_7_2 g0_8_1 g0_8_2 g0_9 g0_10 w1 g2 W  (MGlob.glob_of rfl hL)
  refine Calls.mono (show Calls Tryd.prog 7 #[.agg #[.int .i64 a0_0, .int .i64 a0_1, .bool a0_2, .bool a0_3, .int .i64 a0_4, .int .i64 a0_5, .int .i64 a0_6, .bool a0_7_0, .int .u64 a0_7_1, .int .u64 a0_7_2, .bool a0_8_0, .int .u64 a0_8_1, .int .u64 a0_8_2, .string a0_9, .string a0_10], .int .i64 a1, .string v2_] W _ from hcall) fun e W' ⟨he, bel⟩ => ?_
  subst he
  exact ⟨_, rfl, _, _, _, [], _, [], hW', trodAll_mk1 (shut_bool Tryd.underlying4 _), (trodAll_cons_mk (Below.trod laidOut (by kernel_rfl) (of_decide_eq_true (by kernel_rfl)) k0_ bel lt0) (trodAll_cons_mk (shut_int Tryd.underlying3 w1) (trodAll_cons_mk (Below.trod laidOut (by kernel_rfl) (of_decide_eq_true (by kernel_rfl)) k2_ bel lt2) trodAll_mk0))), rfl, bel.frame _, fun h => by cases h⟩
theorem over : Rows.excuseWhomRow.holds Tryd.pinned (OpenSpec.ofChange Rows.excuseWhomSpec) :=
  OpenClaim.holds_of_wide 7 Tryd.f7 rfl rfl rfl rfl rfl rfl rfl ⟨rfl, rfl, rfl, rfl, rfl⟩ rfl rfl rfl rfl rfl (by kernel_rfl) Tryd.func7 (by kernel_rfl)
    (of_decide_eq_true (by kernel_rfl)) (by unfold Func.isWrapper; first | (rw [if_pos (by decide +kernel)]; kernel_rfl) | (rw [if_neg (by decide +kernel)]; exact ⟨rfl, rfl⟩))
    (fun os started H enc _ => lifted os started H enc)
theorem proved : Rows.ExcuseWhomSaid := over
#print axioms proved
end Go.Proofs.YtaoopneiglgnkaaDoor.excuseWhom
namespace Go.Proofs.YtaoopneiglgnkaaDoor
/-- The row, under a short name, for the claim. -/
theorem excuseWhom_holds : Rows.ExcuseWhomSaid := excuseWhom.proved
/-- The tied card. -/
theorem excuseWhom_card : Rows.ExcuseWhomCardSaid :=
  Claim7.holds_tied_plain_at .later [] [.data] true (true, "7e8afff2ae47f114bd49d384dedb2635dd6b91778b20727717cc8939083ab443") false excuseWhom_holds (fun _ h => by cases h) (by kernel_rfl) (fun _ h => by cases h) excuseWhom_row_tie rfl ⟨rfl, rfl⟩ (by kernel_rfl) rfl
    (fun f fn hf hfn => by
      obtain rfl : f = 7 := Option.some.inj ((show Tryd.prog.funcNamed "crossway/crosswaylaw20.ExcuseWhom" = some 7 by kernel_rfl).symm.trans hf) |>.symm
      obtain rfl : fn = Tryd.f7 := (Option.some.inj (Tryd.func7.symm.trans hfn)).symm
      exact ⟨by kernel_rfl, fun j t ht => by
        rw [Tryd.params7] at ht
        have hm : t ∈ [37, 3, 9] := by simpa using Array.mem_of_getElem? ht
        have hall : ([37, 3, 9].all fun u => !Tryd.prog.wantsStandIn u) = true := by kernel_rfl
        exact (show Tryd.prog.wantsStandIn t = false by simpa using List.all_eq_true.1 hall t hm)⟩)
    (by kernel_rfl)
#print axioms excuseWhom_card
end Go.Proofs.YtaoopneiglgnkaaDoor
