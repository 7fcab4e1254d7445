/-
  The statement EtherBack: the law 'crossway/crosswaylaw05.EtherBack' returns true at every input, and its arguments read as they did. Out of the contract of its call and of the pure law. Conditions: none but the statement's own.
-/
import Derived.Test.YthajbaheejdoaaaDoorRows
import Derived.Test.YthajbaheejdoaaaDoorPBasex14
import Derived.Test.YthajbaheejdoaaaDoorPureEtherBack
import Derived.Test.YthajbaheejdoaaaDoorMOpen
import Derived.WalkKit
import Derived.ProofKit
import Derived.OpenShut
import Derived.ShutString
import Derived.ChangeOld
import Derived.Below
import Derived.SizedLaws
import Derived.Carry
import Derived.Test.YthajbaheejdoaaaDoorMGlob05
import Derived.Test.YthajbaheejdoaaaDoorTie
import Derived.Test.YthajbaheejdoaaaDoorCards
import Derived.LaidMore
import Derived.Lay
import Derived.SevenTiedAt
import Derived.MakeChecks
import Derived.Handed
set_option linter.unusedVariables false
set_option linter.unusedSimpArgs false
namespace Go.Proofs.YthajbaheejdoaaaDoor.etherBack
open Go.ChangeShapes Go.WideShapes Go.ChangeAt Go.RowKit Go.Proofs.YthajbaheejdoaaaDoor.MOpen Go.Proofs.YthajbaheejdoaaaDoor.PBase Go.Proofs.YthajbaheejdoaaaDoorW.PrintWords
open Go.ChangeMaps (open_string shut_string)
theorem own : ownKnob Tryd.prog.godebug = none := by kernel_rfl
theorem laidOut : laidOutB Tryd.prog = true := by kernel_rfl
set_option maxRecDepth 100000 in
theorem lifted (os : Os) (started : os.Started) (H : Type) (enc : TypeId × Value → H) :
    ReturnsInHanded {} Tryd.checked os 5 .any (fun w args => (Rows.etherBackSpec.pre enc Tryd.prog Tryd.f5 Rows.etherBackRow.domain false w args ∧ laidMetH Tryd.prog Rows.etherBackRow.laid w) ∧ sizedMet enc Tryd.prog Tryd.f5 (OpenSpec.ofChange Rows.etherBackSpec) false w args) (Rows.etherBackSpec.post enc Tryd.prog Tryd.f5 false true false false) := by
  refine returnsInHanded_of_change_and (C := Tryd.checked) (X := fun w _ => laidMetH Tryd.prog Rows.etherBackRow.laid w) (fun _ _ _ hh h => h.of_heap hh) own started (by kernel_rfl) Tryd.func5
    (ChangeSpec.witness_shaped (enc := enc) (C := Tryd.checked) (os := os) (X := fun w _ => laidMetH Tryd.prog Rows.etherBackRow.laid w) false (World.laidAll Tryd.prog os Rows.etherBackRow.laid) #[.agg #[.int .u64 0, .int .u64 0, .int .i64 0, .string ByteArray.empty]] 8 (World.laidAll_os _ _ _)
      (World.shaped_of_ZipB (by kernel_rfl) (by kernel_rfl)) (by kernel_rfl) (by kernel_rfl) (by kernel_rfl)
      (by rw [MakeChecks.laidMetH_plain _ _ _ (by kernel_rfl)]; exact laidMet_laidAll _ (by kernel_rfl) (by kernel_rfl))) ?_
  intro W base args ds gs before hval0 hW hcnd hsz0 hL _
  have hsz : (DataW.weightsEach Tryd.prog (Tryd.f5.params.toList ++ Rows.etherBackSpec.plain.varTypes Tryd.prog) (ds ++ gs)).all (· ≤ reachBytes) = true := hsz0
  have hval : ∀ (j : Nat) t v, Tryd.f5.params[j]? = some t → args[j]? = some v → Value.okWide Tryd.prog W .any base t v := hval0
  have hW' := hW
  obtain ⟨p, q, hA0, hV, rfl, hfz, hnd⟩ := hW
  have hA : DataW.TrodAll enc Tryd.prog W 0 (fun _ => true) true Tryd.f5.params.toList args.toList ds p := hA0
  rw [Tryd.params5] at hA hval hsz
  obtain ⟨v0, vs0, d0, ds0, p0, q0, hargs, rfl, rfl, h0, r0⟩ := trodAll_cons hA
  obtain ⟨rfl, rfl, rfl⟩ := trodAll_nil r0
  obtain rfl : args = #[v0] := by cases args; simp_all
  obtain ⟨rfl, rfl⟩ := trodVars_none hV
  have k0_ := h0
  have lt0 : ∀ x ∈ p0, x.block < W.heap.size := by obtain ⟨m, hm⟩ := k0_; exact DataW.trod_lt m _ _ _ hm
  have hwt0 := weights_at (j := 0) hsz rfl rfl
  have o0 : Opens Tryd.prog 25 (Kd.iso (Kd.pair (Kd.int .u64) (Kd.pair (Kd.int .u64) (Kd.pair (Kd.int .i64) Kd.string))) id) _ _ := (opens_struct Tryd.underlying25 (by kernel_rfl) (by kernel_rfl) id id (fun _ => rfl) (opens_pair (opens_int Tryd.underlying23) (opens_pair (opens_int Tryd.underlying23) (opens_pair (opens_int Tryd.underlying3) (opens_one (opens_string Tryd.underlying9))))))
  obtain ⟨fuel0, hf0⟩ := h0
  obtain ⟨cs0, rfl, _⟩ := okWide_struct Tryd.underlying25 (hval 0 25 v0 rfl rfl)
  obtain ⟨⟨a0_0, a0_1, a0_2, a0_3⟩, hK0, ⟨g0_0, g0_1, g0_2, g0_3⟩, b0⟩ := o0 hf0 hwt0
  obtain ⟨cs0⟩ := cs0
  obtain ⟨_, _, rfl, rfl, ⟨_, _, rfl, rfl, ⟨_, _, rfl, rfl, rfl⟩⟩⟩ := hK0
  clear hA0 hval0 hsz0 hsz hval
  obtain ⟨k, hpure⟩ := Pure.EtherBack a0_0 a0_1 a0_2 a0_3 g0_0 g0_1 g0_2 g0_3
  have hcall := crosswaylaw05_EtherBack.calls k a0_0 a0_1 a0_2 a0_3 true W hpure rfl (MGlob.glob_of rfl hL)
  refine Calls.mono (show Calls Tryd.prog 5 #[.agg #[.int .u64 a0_0, .int .u64 a0_1, .int .i64 a0_2, .string a0_3]] W _ from hcall) fun e W' ⟨he, bel⟩ => ?_
  subst he
  exact ⟨_, rfl, _, _, _, [], _, [], hW', trodAll_mk1 (shut_bool Tryd.underlying4 _), (trodAll_cons_mk (Below.trod laidOut (by kernel_rfl) (of_decide_eq_true (by kernel_rfl)) k0_ bel lt0) trodAll_mk0), rfl, bel.frame _, fun h => by cases h⟩
theorem over : Rows.etherBackRow.holds Tryd.pinned (OpenSpec.ofChange Rows.etherBackSpec) :=
  OpenClaim.holds_of_wide 5 Tryd.f5 rfl rfl rfl rfl rfl rfl rfl ⟨rfl, rfl, rfl, rfl, rfl⟩ rfl rfl rfl rfl rfl (by kernel_rfl) Tryd.func5 (by kernel_rfl)
    (of_decide_eq_true (by kernel_rfl)) (by unfold Func.isWrapper; first | (rw [if_pos (by decide +kernel)]; kernel_rfl) | (rw [if_neg (by decide +kernel)]; exact ⟨rfl, rfl⟩))
    (fun os started H enc _ => lifted os started H enc)
theorem proved : Rows.EtherBackSaid := over
#print axioms proved
end Go.Proofs.YthajbaheejdoaaaDoor.etherBack
namespace Go.Proofs.YthajbaheejdoaaaDoor
/-- The row, under a short name, for the claim. -/
theorem etherBack_holds : Rows.EtherBackSaid := etherBack.proved
/-- The tied card. -/
theorem etherBack_card : Rows.EtherBackCardSaid :=
  Claim7.holds_tied_plain_at .later [] [.data] true (true, "5f6968a78fa7e2216de845a4c7f2fef6a39fbdf0001c37973d76d050df8dcd75") false etherBack_holds (fun _ h => by cases h) (by kernel_rfl) (fun _ h => by cases h) etherBack_row_tie rfl ⟨rfl, rfl⟩ (by kernel_rfl) rfl
    (fun f fn hf hfn => by
      obtain rfl : f = 5 := Option.some.inj ((show Tryd.prog.funcNamed "crossway/crosswaylaw05.EtherBack" = some 5 by kernel_rfl).symm.trans hf) |>.symm
      obtain rfl : fn = Tryd.f5 := (Option.some.inj (Tryd.func5.symm.trans hfn)).symm
      exact ⟨by kernel_rfl, fun j t ht => by
        rw [Tryd.params5] at ht
        have hm : t ∈ [25] := by simpa using Array.mem_of_getElem? ht
        have hall : ([25].all fun u => !Tryd.prog.wantsStandIn u) = true := by kernel_rfl
        exact (show Tryd.prog.wantsStandIn t = false by simpa using List.all_eq_true.1 hall t hm)⟩)
    (by kernel_rfl)
#print axioms etherBack_card
end Go.Proofs.YthajbaheejdoaaaDoor
