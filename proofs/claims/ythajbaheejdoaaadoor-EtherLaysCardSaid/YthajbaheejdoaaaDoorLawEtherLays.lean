/-
  The statement EtherLays: the law 'crossway/crosswaylaw05.EtherLays' returns true at every input, and its arguments read as they did. Out of the contract of its call and of the pure law. Conditions: none but the statement's own.
-/
import Derived.Test.YthajbaheejdoaaaDoorRows
import Derived.Test.YthajbaheejdoaaaDoorPBasex11
import Derived.Test.YthajbaheejdoaaaDoorPureArpL
import Derived.Test.YthajbaheejdoaaaDoorMOpen
import Derived.WalkKit
import Derived.ProofKit
import Derived.OpenShut
import Derived.ShutString
import Derived.ChangeOld
import Derived.Below
import Derived.SizedLaws
import Derived.Carry
import Derived.Test.YthajbaheejdoaaaDoorMGlob05
import Derived.Test.YthajbaheejdoaaaDoorTie
import Derived.Test.YthajbaheejdoaaaDoorCards
import Derived.LaidMore
import Derived.Lay
import Derived.SevenTiedAt
import Derived.MakeChecks
import Derived.Handed
set_option linter.unusedVariables false
set_option linter.unusedSimpArgs false
namespace Go.Proofs.YthajbaheejdoaaaDoor.etherLays
open Go.ChangeShapes Go.WideShapes Go.ChangeAt Go.RowKit Go.Proofs.YthajbaheejdoaaaDoor.MOpen Go.Proofs.YthajbaheejdoaaaDoor.PBase Go.Proofs.YthajbaheejdoaaaDoorW.PrintWords
open Go.ChangeMaps (open_string shut_string)
theorem own : ownKnob Tryd.prog.godebug = none := by kernel_rfl
theorem laidOut : laidOutB Tryd.prog = true := by kernel_rfl
set_option maxRecDepth 100000 in
theorem lifted (os : Os) (started : os.Started) (H : Type) (enc : TypeId × Value → H) :
    ReturnsInHanded {} Tryd.checked os 3 .any (fun w args => (Rows.etherLaysSpec.pre enc Tryd.prog Tryd.f3 Rows.etherLaysRow.domain false w args ∧ laidMetH Tryd.prog Rows.etherLaysRow.laid w) ∧ sizedMet enc Tryd.prog Tryd.f3 (OpenSpec.ofChange Rows.etherLaysSpec) false w args) (Rows.etherLaysSpec.post enc Tryd.prog Tryd.f3 false true false false) := by
  refine returnsInHanded_of_change_and (C := Tryd.checked) (X := fun w _ => laidMetH Tryd.prog Rows.etherLaysRow.laid w) (fun _ _ _ hh h => h.of_heap hh) own started (by kernel_rfl) Tryd.func3
    (ChangeSpec.witness_shaped (enc := enc) (C := Tryd.checked) (os := os) (X := fun w _ => laidMetH Tryd.prog Rows.etherLaysRow.laid w) false (World.laidAll Tryd.prog os Rows.etherLaysRow.laid) #[.agg #[.int .u64 0, .int .u64 0, .int .i64 0, .string ByteArray.empty], .agg #[.int .i64 0, .int .u64 0, .bool false, .int .u64 0, .int .u64 0, .int .u64 0, .bool false, .int .u64 0, .int .u64 0]] 8 (World.laidAll_os _ _ _)
      (World.shaped_of_ZipB (by kernel_rfl) (by kernel_rfl)) (by kernel_rfl) (by kernel_rfl) (by kernel_rfl)
      (by rw [MakeChecks.laidMetH_plain _ _ _ (by kernel_rfl)]; exact laidMet_laidAll _ (by kernel_rfl) (by kernel_rfl))) ?_
  intro W base args ds gs before hval0 hW hcnd hsz0 hL _
  have hsz : (DataW.weightsEach Tryd.prog (Tryd.f3.params.toList ++ Rows.etherLaysSpec.plain.varTypes Tryd.prog) (ds ++ gs)).all (· ≤ reachBytes) = true := hsz0
  have hval : ∀ (j : Nat) t v, Tryd.f3.params[j]? = some t → args[j]? = some v → Value.okWide Tryd.prog W .any base t v := hval0
  have hW' := hW
  obtain ⟨p, q, hA0, hV, rfl, hfz, hnd⟩ := hW
  have hA : DataW.TrodAll enc Tryd.prog W 0 (fun _ => true) true Tryd.f3.params.toList args.toList ds p := hA0
  rw [Tryd.params3] at hA hval hsz
  obtain ⟨v0, vs0, d0, ds0, p0, q0, hargs, rfl, rfl, h0, r0⟩ := trodAll_cons hA
  obtain ⟨v1, vs1, d1, ds1, p1, q1, rfl, rfl, rfl, h1, r1⟩ := trodAll_cons r0
  obtain ⟨rfl, rfl, rfl⟩ := trodAll_nil r1
  obtain rfl : args = #[v0, v1] := by cases args; simp_all
  obtain ⟨rfl, rfl⟩ := trodVars_none hV
  have k0_ := h0
  have lt0 : ∀ x ∈ p0, x.block < W.heap.size := by obtain ⟨m, hm⟩ := k0_; exact DataW.trod_lt m _ _ _ hm
  have hwt0 := weights_at (j := 0) hsz rfl rfl
  have o0 : Opens Tryd.prog 25 (Kd.iso (Kd.pair (Kd.int .u64) (Kd.pair (Kd.int .u64) (Kd.pair (Kd.int .i64) Kd.string))) id) _ _ := (opens_struct Tryd.underlying25 (by kernel_rfl) (by kernel_rfl) id id (fun _ => rfl) (opens_pair (opens_int Tryd.underlying23) (opens_pair (opens_int Tryd.underlying23) (opens_pair (opens_int Tryd.underlying3) (opens_one (opens_string Tryd.underlying9))))))
  obtain ⟨fuel0, hf0⟩ := h0
  obtain ⟨cs0, rfl, _⟩ := okWide_struct Tryd.underlying25 (hval 0 25 v0 rfl rfl)
  obtain ⟨⟨a0_0, a0_1, a0_2, a0_3⟩, hK0, ⟨g0_0, g0_1, g0_2, g0_3⟩, b0⟩ := o0 hf0 hwt0
  obtain ⟨cs0⟩ := cs0
  obtain ⟨_, _, rfl, rfl, ⟨_, _, rfl, rfl, ⟨_, _, rfl, rfl, rfl⟩⟩⟩ := hK0
  have k1_ := h1
  have lt1 : ∀ x ∈ p1, x.block < W.heap.size := by obtain ⟨m, hm⟩ := k1_; exact DataW.trod_lt m _ _ _ hm
  have hwt1 := weights_at (j := 1) hsz rfl rfl
  have o1 : Opens Tryd.prog 29 (Kd.iso (Kd.pair (Kd.int .i64) (Kd.pair (Kd.int .u64) (Kd.pair (Kd.iso (Kd.pair Kd.bool (Kd.pair (Kd.int .u64) (Kd.int .u64))) id) (Kd.pair (Kd.int .u64) (Kd.iso (Kd.pair Kd.bool (Kd.pair (Kd.int .u64) (Kd.int .u64))) id))))) id) _ _ := (opens_struct Tryd.underlying29 (by kernel_rfl) (by kernel_rfl) id id (fun _ => rfl) (opens_pair (opens_int Tryd.underlying3) (opens_pair (opens_int Tryd.underlying23) (opens_pair (opens_struct Tryd.underlying27 (by kernel_rfl) (by kernel_rfl) id id (fun _ => rfl) (opens_pair (opens_bool Tryd.underlying4) (opens_pair (opens_int Tryd.underlying22) (opens_one (opens_int Tryd.underlying22))))) (opens_pair (opens_int Tryd.underlying23) (opens_one (opens_struct Tryd.underlying27 (by kernel_rfl) (by kernel_rfl) id id (fun _ => rfl) (opens_pair (opens_bool Tryd.underlying4) (opens_pair (opens_int Tryd.underlying22) (opens_one (opens_int Tryd.underlying22)))))))))))
  obtain ⟨fuel1, hf1⟩ := h1
  obtain ⟨cs1, rfl, _⟩ := okWide_struct Tryd.underlying29 (hval 1 29 v1 rfl rfl)
  obtain ⟨⟨a1_0, a1_1, ⟨a1_2_0, a1_2_1, a1_2_2⟩, a1_3, ⟨a1_4_0, a1_4_1, a1_4_2⟩⟩, hK1, ⟨g1_0, g1_1, ⟨_, g1_2_1, g1_2_2⟩, g1_3, ⟨_, g1_4_1, g1_4_2⟩⟩, b1⟩ := o1 hf1 hwt1
  obtain ⟨cs1⟩ := cs1
  obtain ⟨_, _, rfl, rfl, ⟨_, _, rfl, rfl, ⟨_, _, rfl, ⟨_, _, rfl, rfl, ⟨_, _, rfl, rfl, rfl⟩⟩, ⟨_, _, rfl, rfl, ⟨_, _, rfl, rfl, ⟨_, _, rfl, rfl, rfl⟩⟩⟩⟩⟩⟩ := hK1
  clear hA0 hval0 hsz0 hsz hval
  obtain ⟨k, hpure⟩ := Pure.EtherLays a0_0 a0_1 a0_2 a0_3 a1_0 a1_1 a1_2_0 a1_2_1 a1_2_2 a1_3 a1_4_0 a1_4_1 a1_4_2 g0_0 g0_1 g0_2 g0_3 g1_0 g1_1 g1_2_1 g1_2_2 g1_3 g1_4_1 g1_4_2
  have hcall := crosswaylaw05_EtherLays.calls k a0_0 a0_1 a0_2 a0_3 a1_0 a1_1 a1_2_0 a1_2_1 a1_2_2 a1_3 a1_4_0 a1_4_1 a1_4_2 true W hpure rfl (MGlob.glob_of rfl hL)
  refine Calls.mono (show Calls Tryd.prog 3 #[.agg #[.int .u64 a0_0, .int .u64 a0_1, .int .i64 a0_2, .string a0_3], .agg #[.int .i64 a1_0, .int .u64 a1_1, .bool a1_2_0, .int .u64 a1_2_1, .int .u64 a1_2_2, .int .u64 a1_3, .bool a1_4_0, .int .u64 a1_4_1, .int .u64 a1_4_2]] W _ from hcall) fun e W' ⟨he, bel⟩ => ?_
  subst he
  exact ⟨_, rfl, _, _, _, [], _, [], hW', trodAll_mk1 (shut_bool Tryd.underlying4 _), (trodAll_cons_mk (Below.trod laidOut (by kernel_rfl) (of_decide_eq_true (by kernel_rfl)) k0_ bel lt0) (trodAll_cons_mk (Below.trod laidOut (by kernel_rfl) (of_decide_eq_true (by kernel_rfl)) k1_ bel lt1) trodAll_mk0)), rfl, bel.frame _, fun h => by cases h⟩
theorem over : Rows.etherLaysRow.holds Tryd.pinned (OpenSpec.ofChange Rows.etherLaysSpec) :=
  OpenClaim.holds_of_wide 3 Tryd.f3 rfl rfl rfl rfl rfl rfl rfl ⟨rfl, rfl, rfl, rfl, rfl⟩ rfl rfl rfl rfl rfl (by kernel_rfl) Tryd.func3 (by kernel_rfl)
    (of_decide_eq_true (by kernel_rfl)) (by unfold Func.isWrapper; first | (rw [if_pos (by decide +kernel)]; kernel_rfl) | (rw [if_neg (by decide +kernel)]; exact ⟨rfl, rfl⟩))
    (fun os started H enc _ => lifted os started H enc)
theorem proved : Rows.EtherLaysSaid := over
#print axioms proved
end Go.Proofs.YthajbaheejdoaaaDoor.etherLays
namespace Go.Proofs.YthajbaheejdoaaaDoor
/-- The row, under a short name, for the claim. -/
theorem etherLays_holds : Rows.EtherLaysSaid := etherLays.proved
/-- The tied card. -/
theorem etherLays_card : Rows.EtherLaysCardSaid :=
  Claim7.holds_tied_plain_at .later [] [.data] true (true, "5f6968a78fa7e2216de845a4c7f2fef6a39fbdf0001c37973d76d050df8dcd75") false etherLays_holds (fun _ h => by cases h) (by kernel_rfl) (fun _ h => by cases h) etherLays_row_tie rfl ⟨rfl, rfl⟩ (by kernel_rfl) rfl
    (fun f fn hf hfn => by
      obtain rfl : f = 3 := Option.some.inj ((show Tryd.prog.funcNamed "crossway/crosswaylaw05.EtherLays" = some 3 by kernel_rfl).symm.trans hf) |>.symm
      obtain rfl : fn = Tryd.f3 := (Option.some.inj (Tryd.func3.symm.trans hfn)).symm
      exact ⟨by kernel_rfl, fun j t ht => by
        rw [Tryd.params3] at ht
        have hm : t ∈ [25, 29] := by simpa using Array.mem_of_getElem? ht
        have hall : ([25, 29].all fun u => !Tryd.prog.wantsStandIn u) = true := by kernel_rfl
        exact (show Tryd.prog.wantsStandIn t = false by simpa using List.all_eq_true.1 hall t hm)⟩)
    (by kernel_rfl)
#print axioms etherLays_card
end Go.Proofs.YthajbaheejdoaaaDoor
