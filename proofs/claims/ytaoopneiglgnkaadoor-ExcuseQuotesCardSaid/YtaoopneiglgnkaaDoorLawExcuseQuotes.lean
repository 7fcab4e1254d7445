/-
  The statement ExcuseQuotes: the law 'crossway/crosswaylaw20.ExcuseQuotes' returns true at every input, and its arguments read as they did. Out of the contract of its call and of the pure law. Conditions: none but the statement's own.
-/
import Derived.Test.YtaoopneiglgnkaaDoorRows
import Derived.Test.YtaoopneiglgnkaaDoorWQuotes
import Derived.Test.YtaoopneiglgnkaaDoorWQuotes
import Derived.Test.YtaoopneiglgnkaaDoorMOpen
import Derived.WalkKit
import Derived.ProofKit
import Derived.OpenShut
import Derived.ShutString
import Derived.ChangeOld
import Derived.Below
import Derived.SizedLaws
import Derived.Carry
import Derived.Test.YtaoopneiglgnkaaDoorMGlob20
import Derived.Test.YtaoopneiglgnkaaDoorTie
import Derived.Test.YtaoopneiglgnkaaDoorCards
import Derived.LaidMore
import Derived.Lay
import Derived.SevenTiedAt
import Derived.MakeChecks
import Derived.Handed
set_option linter.unusedVariables false
set_option linter.unusedSimpArgs false
namespace Go.Proofs.YtaoopneiglgnkaaDoor.excuseQuotes
open Go.ChangeShapes Go.WideShapes Go.ChangeAt Go.RowKit Go.Proofs.YtaoopneiglgnkaaDoor.MOpen Go.Proofs.YtaoopneiglgnkaaDoor.WQ Go.Proofs.YtaoopneiglgnkaaDoorW.PrintWords
open Go.ChangeMaps (open_string shut_string)
theorem own : ownKnob Tryd.prog.godebug = none := by kernel_rfl
theorem laidOut : laidOutB Tryd.prog = true := by kernel_rfl
set_option maxRecDepth 100000 in
theorem lifted (os : Os) (started : os.Started) (H : Type) (enc : TypeId × Value → H) :
    ReturnsInHanded {} Tryd.checked os 8 .any (fun w args => (Rows.excuseQuotesSpec.pre enc Tryd.prog Tryd.f8 Rows.excuseQuotesRow.domain false w args ∧ laidMetH Tryd.prog Rows.excuseQuotesRow.laid w) ∧ sizedMet enc Tryd.prog Tryd.f8 (OpenSpec.ofChange Rows.excuseQuotesSpec) false w args) (Rows.excuseQuotesSpec.post enc Tryd.prog Tryd.f8 false true false false) := by
  refine returnsInHanded_of_change_and (C := Tryd.checked) (X := fun w _ => laidMetH Tryd.prog Rows.excuseQuotesRow.laid w) (fun _ _ _ hh h => h.of_heap hh) own started (by kernel_rfl) Tryd.func8
    (ChangeSpec.witness_shaped (enc := enc) (C := Tryd.checked) (os := os) (X := fun w _ => laidMetH Tryd.prog Rows.excuseQuotesRow.laid w) false (World.laidAll Tryd.prog os Rows.excuseQuotesRow.laid) #[.int .i64 0, .string ByteArray.empty, .agg #[.bool false, .int .u64 0, .int .u64 0], .int .i64 0] 8 (World.laidAll_os _ _ _)
      (World.shaped_of_ZipB (by kernel_rfl) (by kernel_rfl)) (by kernel_rfl) (by kernel_rfl) (by kernel_rfl)
      (by rw [MakeChecks.laidMetH_plain _ _ _ (by kernel_rfl)]; exact laidMet_laidAll _ (by kernel_rfl) (by kernel_rfl))) ?_
  intro W base args ds gs before hval0 hW hcnd hsz0 hL _
  have hsz : (DataW.weightsEach Tryd.prog (Tryd.f8.params.toList ++ Rows.excuseQuotesSpec.plain.varTypes Tryd.prog) (ds ++ gs)).all (· ≤ reachBytes) = true := hsz0
  have hval : ∀ (j : Nat) t v, Tryd.f8.params[j]? = some t → args[j]? = some v → Value.okWide Tryd.prog W .any base t v := hval0
  have hW' := hW
  obtain ⟨p, q, hA0, hV, rfl, hfz, hnd⟩ := hW
  have hA : DataW.TrodAll enc Tryd.prog W 0 (fun _ => true) true Tryd.f8.params.toList args.toList ds p := hA0
  rw [Tryd.params8] at hA hval hsz
  obtain ⟨v0, vs0, d0, ds0, p0, q0, hargs, rfl, rfl, h0, r0⟩ := trodAll_cons hA
  obtain ⟨v1, vs1, d1, ds1, p1, q1, rfl, rfl, rfl, h1, r1⟩ := trodAll_cons r0
  obtain ⟨v2, vs2, d2, ds2, p2, q2, rfl, rfl, rfl, h2, r2⟩ := trodAll_cons r1
  obtain ⟨v3, vs3, d3, ds3, p3, q3, rfl, rfl, rfl, h3, r3⟩ := trodAll_cons r2
  obtain ⟨rfl, rfl, rfl⟩ := trodAll_nil r3
  obtain rfl : args = #[v0, v1, v2, v3] := by cases args; simp_all
  obtain ⟨rfl, rfl⟩ := trodVars_none hV
  obtain ⟨a0, rfl, rfl, rfl, w0⟩ := open_int Tryd.underlying3 (hval 0 3 v0 rfl rfl) h0
  have k1_ := h1
  have lt1 : ∀ x ∈ p1, x.block < W.heap.size := by obtain ⟨m, hm⟩ := k1_; exact DataW.trod_lt m _ _ _ hm
  have hwt1 := weights_at (j := 1) hsz rfl rfl
  have o1 : Opens Tryd.prog 9 Kd.string _ _ := (opens_string Tryd.underlying9)
  obtain ⟨fuel1, hf1⟩ := h1
  obtain ⟨v1_, rfl⟩ : ∃ s, v1 = .string s := by obtain ⟨s, e, _⟩ := open_string Tryd.underlying9 (hval 1 9 v1 rfl rfl) k1_; exact ⟨s, e⟩
  obtain ⟨a1, hK1, g1, b1⟩ := o1 hf1 hwt1
  have hcs1 : [Value.string v1_] = [Value.string a1] := hK1
  simp only [List.cons.injEq, Value.string.injEq, and_true] at hcs1
  subst hcs1
  have k2_ := h2
  have lt2 : ∀ x ∈ p2, x.block < W.heap.size := by obtain ⟨m, hm⟩ := k2_; exact DataW.trod_lt m _ _ _ hm
  have hwt2 := weights_at (j := 2) hsz rfl rfl
  have o2 : Opens Tryd.prog 28 (Kd.iso (Kd.pair Kd.bool (Kd.pair (Kd.int .u64) (Kd.int .u64))) id) _ _ := (opens_struct Tryd.underlying28 (by kernel_rfl) (by kernel_rfl) id id (fun _ => rfl) (opens_pair (opens_bool Tryd.underlying4) (opens_pair (opens_int Tryd.underlying26) (opens_one (opens_int Tryd.underlying26)))))
  obtain ⟨fuel2, hf2⟩ := h2
  obtain ⟨cs2, rfl, _⟩ := okWide_struct Tryd.underlying28 (hval 2 28 v2 rfl rfl)
  obtain ⟨⟨a2_0, a2_1, a2_2⟩, hK2, ⟨_, g2_1, g2_2⟩, b2⟩ := o2 hf2 hwt2
  obtain ⟨cs2⟩ := cs2
  obtain ⟨_, _, rfl, rfl, ⟨_, _, rfl, rfl, rfl⟩⟩ := hK2
  obtain ⟨a3, rfl, rfl, rfl, w3⟩ := open_int Tryd.underlying3 (hval 3 3 v3 rfl rfl) h3
  clear hA0 hval0 hsz0 hsz hval
  have hcall := WQ.quotesCalls a0 v1_ a2_0 a2_1 a2_2 a3 w0 g1 g2_1 g2_2 w3 W  (MGlob.glob_of rfl hL)
  refine Calls.mono (show Calls Tryd.prog 8 #[.int .i64 a0, .string v1_, .agg #[.bool a2_0, .int .u64 a2_1, .int .u64 a2_2], .int .i64 a3] W _ from hcall) fun e W' ⟨he, bel⟩ => ?_
  subst he
  exact ⟨_, rfl, _, _, _, [], _, [], hW', trodAll_mk1 (shut_bool Tryd.underlying4 _), (trodAll_cons_mk (shut_int Tryd.underlying3 w0) (trodAll_cons_mk (Below.trod laidOut (by kernel_rfl) (of_decide_eq_true (by kernel_rfl)) k1_ bel lt1) (trodAll_cons_mk (Below.trod laidOut (by kernel_rfl) (of_decide_eq_true (by kernel_rfl)) k2_ bel lt2) (trodAll_cons_mk (shut_int Tryd.underlying3 w3) trodAll_mk0)))), rfl, bel.frame _, fun h => by cases h⟩
theorem over : Rows.excuseQuotesRow.holds Tryd.pinned (OpenSpec.ofChange Rows.excuseQuotesSpec) :=
  OpenClaim.holds_of_wide 8 Tryd.f8 rfl rfl rfl rfl rfl rfl rfl ⟨rfl, rfl, rfl, rfl, rfl⟩ rfl rfl rfl rfl rfl (by kernel_rfl) Tryd.func8 (by kernel_rfl)
    (of_decide_eq_true (by kernel_rfl)) (by unfold Func.isWrapper; first | (rw [if_pos (by decide +kernel)]; kernel_rfl) | (rw [if_neg (by decide +kernel)]; exact ⟨rfl, rfl⟩))
    (fun os started H enc _ => lifted os started H enc)
theorem proved : Rows.ExcuseQuotesSaid := over
#print axioms proved
end Go.Proofs.YtaoopneiglgnkaaDoor.excuseQuotes
namespace Go.Proofs.YtaoopneiglgnkaaDoor
/-- The row, under a short name, for the claim. -/
theorem excuseQuotes_holds : Rows.ExcuseQuotesSaid := excuseQuotes.proved
/-- The tied card. -/
theorem excuseQuotes_card : Rows.ExcuseQuotesCardSaid :=
  Claim7.holds_tied_plain_at .later [] [.data] true (true, "7e8afff2ae47f114bd49d384dedb2635dd6b91778b20727717cc8939083ab443") false excuseQuotes_holds (fun _ h => by cases h) (by kernel_rfl) (fun _ h => by cases h) excuseQuotes_row_tie rfl ⟨rfl, rfl⟩ (by kernel_rfl) rfl
    (fun f fn hf hfn => by
      obtain rfl : f = 8 := Option.some.inj ((show Tryd.prog.funcNamed "crossway/crosswaylaw20.ExcuseQuotes" = some 8 by kernel_rfl).symm.trans hf) |>.symm
      obtain rfl : fn = Tryd.f8 := (Option.some.inj (Tryd.func8.symm.trans hfn)).symm
      exact ⟨by kernel_rfl, fun j t ht => by
        rw [Tryd.params8] at ht
        have hm : t ∈ [3, 9, 28, 3] := by simpa using Array.mem_of_getElem? ht
        have hall : ([3, 9, 28, 3].all fun u => !Tryd.prog.wantsStandIn u) = true := by kernel_rfl
        exact (show Tryd.prog.wantsStandIn t = false by simpa using List.all_eq_true.1 hall t hm)⟩)
    (by kernel_rfl)
#print axioms excuseQuotes_card
end Go.Proofs.YtaoopneiglgnkaaDoor
