/-
  No cell of these rows narrows 'for every input' (looked for: loops, veiled, ifaces, maps, wideKeys, modest, calm, conditions, laid).
  DERIVED. THE GIVEN ROWS OF THIS SEAT. 7 by the template 'for every input the law returns true; each argument reads behind the call as it read before'; 0 by the template 'total and deterministic' (their statements: YtgloieofdnpggaaTotals.lean).
  GIVEN WITH THE SEED: the statements are not yours to turn. If you find one false, say at which input.
  Laid BY PROGRAM, IN A SANDBOX (cutbox-rows.mjs): the forced cells as the released guide's own fill.sh prints them over the translation 31b1f4095a8d886d… (all of the seat's roots in one cut). By AI agents, Wed Nov 11 2026. No macro, syntax, notation, axiom, sorry.
-/
import Derived.Test.YtgloieofdnpggaaChecked
import GoSem.Claim
import GoSem.ClaimJoined
import GoSem.ClaimMapViews
import Derived.JoinedTies
import Derived.KernelRfl
namespace Go.Proofs.Ytgloieofdnpggaa
/- THE CELL 'sum', in the pinned program and in every row, IS THE sha256 OF THE DUMP (.gsa) THAT YtgloieofdnpggaaProg.lean LOADS. Nothing in Lean hashes anything: it is a label: what it is worth is what the hold of that sum in a sandbox is worth. -/
noncomputable def Try.pinned : Pinned := { name := "ytgloieofdnpggaa", sum := "31b1f4095a8d886d6998843fed0bb47ca6fe27089c5b32c0a36d1d2d08bed3e7", checked := Try.checked }
namespace Rows
def none {H : Type} : Left H := { results := [], args := [] }

/-- 'crosswaylaw02.TallySums': WHATEVER THE INPUT: true; the input reads as it did. -/
def tallySumsSpec : ChangeSpec := { name := "tallySums", fn := fun _ => fun
  | [d] => { results := [.lit (.bool true)], args := [d] }
  | _ => none }
def tallySumsRow : OpenClaim := { program := "ytgloieofdnpggaa", sum := "31b1f4095a8d886d6998843fed0bb47ca6fe27089c5b32c0a36d1d2d08bed3e7", func := "crossway/crosswaylaw02.TallySums", spec := "tallySums", apart := false }
def TallySumsSaid : Prop := tallySumsRow.holds Try.pinned (OpenSpec.ofChange tallySumsSpec)

/-- ITS FALSE NEIGHBOUR: 'it returns false'. Refute it at one input. -/
def tallySumsWrong : ChangeSpec := { name := "tallySums", fn := fun _ => fun
  | [d] => { results := [.lit (.bool false)], args := [d] }
  | _ => none }
def TallySumsWrongFalsely : Prop := tallySumsRow.holds Try.pinned (OpenSpec.ofChange tallySumsWrong)

/-- 'crosswaylaw02.TallyAdds': WHATEVER THE INPUT: true; the input reads as it did. -/
def tallyAddsSpec : ChangeSpec := { name := "tallyAdds", fn := fun _ => fun
  | [d1, d2, d3] => { results := [.lit (.bool true)], args := [d1, d2, d3] }
  | _ => none }
def tallyAddsRow : OpenClaim := { program := "ytgloieofdnpggaa", sum := "31b1f4095a8d886d6998843fed0bb47ca6fe27089c5b32c0a36d1d2d08bed3e7", func := "crossway/crosswaylaw02.TallyAdds", spec := "tallyAdds", apart := false }
def TallyAddsSaid : Prop := tallyAddsRow.holds Try.pinned (OpenSpec.ofChange tallyAddsSpec)

/-- ITS FALSE NEIGHBOUR: 'it returns false'. Refute it at one input. -/
def tallyAddsWrong : ChangeSpec := { name := "tallyAdds", fn := fun _ => fun
  | [d1, d2, d3] => { results := [.lit (.bool false)], args := [d1, d2, d3] }
  | _ => none }
def TallyAddsWrongFalsely : Prop := tallyAddsRow.holds Try.pinned (OpenSpec.ofChange tallyAddsWrong)

/-- 'crosswaylaw02.TallyMends': WHATEVER THE INPUT: true; the input reads as it did. -/
def tallyMendsSpec : ChangeSpec := { name := "tallyMends", fn := fun _ => fun
  | [d1, d2, d3] => { results := [.lit (.bool true)], args := [d1, d2, d3] }
  | _ => none }
def tallyMendsRow : OpenClaim := { program := "ytgloieofdnpggaa", sum := "31b1f4095a8d886d6998843fed0bb47ca6fe27089c5b32c0a36d1d2d08bed3e7", func := "crossway/crosswaylaw02.TallyMends", spec := "tallyMends", apart := false }
def TallyMendsSaid : Prop := tallyMendsRow.holds Try.pinned (OpenSpec.ofChange tallyMendsSpec)

/-- ITS FALSE NEIGHBOUR: 'it returns false'. Refute it at one input. -/
def tallyMendsWrong : ChangeSpec := { name := "tallyMends", fn := fun _ => fun
  | [d1, d2, d3] => { results := [.lit (.bool false)], args := [d1, d2, d3] }
  | _ => none }
def TallyMendsWrongFalsely : Prop := tallyMendsRow.holds Try.pinned (OpenSpec.ofChange tallyMendsWrong)

/-- 'crosswaylaw02.TallyPseudo': WHATEVER THE INPUT: true; the input reads as it did. -/
def tallyPseudoSpec : ChangeSpec := { name := "tallyPseudo", fn := fun _ => fun
  | [d1, d2, d3, d4] => { results := [.lit (.bool true)], args := [d1, d2, d3, d4] }
  | _ => none }
def tallyPseudoRow : OpenClaim := { program := "ytgloieofdnpggaa", sum := "31b1f4095a8d886d6998843fed0bb47ca6fe27089c5b32c0a36d1d2d08bed3e7", func := "crossway/crosswaylaw02.TallyPseudo", spec := "tallyPseudo", apart := false }
def TallyPseudoSaid : Prop := tallyPseudoRow.holds Try.pinned (OpenSpec.ofChange tallyPseudoSpec)

/-- ITS FALSE NEIGHBOUR: 'it returns false'. Refute it at one input. -/
def tallyPseudoWrong : ChangeSpec := { name := "tallyPseudo", fn := fun _ => fun
  | [d1, d2, d3, d4] => { results := [.lit (.bool false)], args := [d1, d2, d3, d4] }
  | _ => none }
def TallyPseudoWrongFalsely : Prop := tallyPseudoRow.holds Try.pinned (OpenSpec.ofChange tallyPseudoWrong)

/-- 'crosswaylaw02.TallyCompletes': WHATEVER THE INPUT: true; the input reads as it did. -/
def tallyCompletesSpec : ChangeSpec := { name := "tallyCompletes", fn := fun _ => fun
  | [d1, d2] => { results := [.lit (.bool true)], args := [d1, d2] }
  | _ => none }
def tallyCompletesRow : OpenClaim := { program := "ytgloieofdnpggaa", sum := "31b1f4095a8d886d6998843fed0bb47ca6fe27089c5b32c0a36d1d2d08bed3e7", func := "crossway/crosswaylaw02.TallyCompletes", spec := "tallyCompletes", apart := false }
def TallyCompletesSaid : Prop := tallyCompletesRow.holds Try.pinned (OpenSpec.ofChange tallyCompletesSpec)

/-- ITS FALSE NEIGHBOUR: 'it returns false'. Refute it at one input. -/
def tallyCompletesWrong : ChangeSpec := { name := "tallyCompletes", fn := fun _ => fun
  | [d1, d2] => { results := [.lit (.bool false)], args := [d1, d2] }
  | _ => none }
def TallyCompletesWrongFalsely : Prop := tallyCompletesRow.holds Try.pinned (OpenSpec.ofChange tallyCompletesWrong)

/-- 'crosswaylaw02.TallyMended': WHATEVER THE INPUT: true; the input reads as it did. -/
def tallyMendedSpec : ChangeSpec := { name := "tallyMended", fn := fun _ => fun
  | [d1, d2, d3] => { results := [.lit (.bool true)], args := [d1, d2, d3] }
  | _ => none }
def tallyMendedRow : OpenClaim := { program := "ytgloieofdnpggaa", sum := "31b1f4095a8d886d6998843fed0bb47ca6fe27089c5b32c0a36d1d2d08bed3e7", func := "crossway/crosswaylaw02.TallyMended", spec := "tallyMended", apart := false }
def TallyMendedSaid : Prop := tallyMendedRow.holds Try.pinned (OpenSpec.ofChange tallyMendedSpec)

/-- ITS FALSE NEIGHBOUR: 'it returns false'. Refute it at one input. -/
def tallyMendedWrong : ChangeSpec := { name := "tallyMended", fn := fun _ => fun
  | [d1, d2, d3] => { results := [.lit (.bool false)], args := [d1, d2, d3] }
  | _ => none }
def TallyMendedWrongFalsely : Prop := tallyMendedRow.holds Try.pinned (OpenSpec.ofChange tallyMendedWrong)

/-- 'crosswaylaw02.TallyOrder': WHATEVER THE INPUT: true; the input reads as it did. -/
def tallyOrderSpec : ChangeSpec := { name := "tallyOrder", fn := fun _ => fun
  | [d1, d2] => { results := [.lit (.bool true)], args := [d1, d2] }
  | _ => none }
def tallyOrderRow : OpenClaim := { program := "ytgloieofdnpggaa", sum := "31b1f4095a8d886d6998843fed0bb47ca6fe27089c5b32c0a36d1d2d08bed3e7", func := "crossway/crosswaylaw02.TallyOrder", spec := "tallyOrder", apart := false }
def TallyOrderSaid : Prop := tallyOrderRow.holds Try.pinned (OpenSpec.ofChange tallyOrderSpec)

/-- ITS FALSE NEIGHBOUR: 'it returns false'. Refute it at one input. -/
def tallyOrderWrong : ChangeSpec := { name := "tallyOrder", fn := fun _ => fun
  | [d1, d2] => { results := [.lit (.bool false)], args := [d1, d2] }
  | _ => none }
def TallyOrderWrongFalsely : Prop := tallyOrderRow.holds Try.pinned (OpenSpec.ofChange tallyOrderWrong)

/- THE SECOND FORM. 'bulk': how many values and letters a reading holds, each counted each time it is reached (what is shared counts as often as it is met; a slice's spare places count too). A statement '..UptoSaid' is the law's where the arguments, and the package variables that the reading takes, are together of bulk at most 1048576: NARROWER than '..Said'. Prove '..Said' where nothing that the law and all that it calls make is longer than what came in: it says more and counts as full. Else prove '..UptoSaid'. A law counts once. -/
mutual
def uptoBulk {H : Type} : DataW H → Nat
  | .lit (.string bytes) => bytes.length + 1
  | .lit _ => 1
  | .nil => 1
  | .ptr d => uptoBulk d + 1
  | .slice elems spare => uptoBulkAll elems + uptoBulkAll spare + 1
  | .agg parts => uptoBulkAll parts + 1
  | .iface _ d => uptoBulk d + 1
  | .map entries => uptoBulkEntries entries + 1
  | .held _ => 1
def uptoBulkAll {H : Type} : List (DataW H) → Nat
  | [] => 0
  | d :: r => uptoBulk d + uptoBulkAll r
def uptoBulkEntries {H : Type} : List (Lit × DataW H) → Nat
  | [] => 0
  | x :: r => uptoBulkEntry x + uptoBulkEntries r
def uptoBulkEntry {H : Type} : Lit × DataW H → Nat
  | (.string bytes, d) => bytes.length + uptoBulk d + 1
  | (_, d) => uptoBulk d + 1
 end
def uptoSmall : (H : Type) → List (DataW H) → Bool := fun _ ds => decide (uptoBulkAll ds ≤ 1048576)
def OpenSpec.upto (s : _root_.Go.ChangeSpec) : _root_.Go.OpenSpec := { _root_.Go.OpenSpec.ofChange s with cond := some uptoSmall }

/-- 'crosswaylaw02.TallySums', WHERE WHAT IT READS IS OF BULK AT MOST 1048576: true; the input reads as it did. -/
def tallySumsUptoRow : OpenClaim := { program := "ytgloieofdnpggaa", sum := "31b1f4095a8d886d6998843fed0bb47ca6fe27089c5b32c0a36d1d2d08bed3e7", func := "crossway/crosswaylaw02.TallySums", spec := "tallySums", apart := false, narrowed := true }
def TallySumsUptoSaid : Prop := tallySumsUptoRow.holds Try.pinned (OpenSpec.upto tallySumsSpec)

/-- 'crosswaylaw02.TallyAdds', WHERE WHAT IT READS IS OF BULK AT MOST 1048576: true; the input reads as it did. -/
def tallyAddsUptoRow : OpenClaim := { program := "ytgloieofdnpggaa", sum := "31b1f4095a8d886d6998843fed0bb47ca6fe27089c5b32c0a36d1d2d08bed3e7", func := "crossway/crosswaylaw02.TallyAdds", spec := "tallyAdds", apart := false, narrowed := true }
def TallyAddsUptoSaid : Prop := tallyAddsUptoRow.holds Try.pinned (OpenSpec.upto tallyAddsSpec)

/-- 'crosswaylaw02.TallyMends', WHERE WHAT IT READS IS OF BULK AT MOST 1048576: true; the input reads as it did. -/
def tallyMendsUptoRow : OpenClaim := { program := "ytgloieofdnpggaa", sum := "31b1f4095a8d886d6998843fed0bb47ca6fe27089c5b32c0a36d1d2d08bed3e7", func := "crossway/crosswaylaw02.TallyMends", spec := "tallyMends", apart := false, narrowed := true }
def TallyMendsUptoSaid : Prop := tallyMendsUptoRow.holds Try.pinned (OpenSpec.upto tallyMendsSpec)

/-- 'crosswaylaw02.TallyPseudo', WHERE WHAT IT READS IS OF BULK AT MOST 1048576: true; the input reads as it did. -/
def tallyPseudoUptoRow : OpenClaim := { program := "ytgloieofdnpggaa", sum := "31b1f4095a8d886d6998843fed0bb47ca6fe27089c5b32c0a36d1d2d08bed3e7", func := "crossway/crosswaylaw02.TallyPseudo", spec := "tallyPseudo", apart := false, narrowed := true }
def TallyPseudoUptoSaid : Prop := tallyPseudoUptoRow.holds Try.pinned (OpenSpec.upto tallyPseudoSpec)

/-- 'crosswaylaw02.TallyCompletes', WHERE WHAT IT READS IS OF BULK AT MOST 1048576: true; the input reads as it did. -/
def tallyCompletesUptoRow : OpenClaim := { program := "ytgloieofdnpggaa", sum := "31b1f4095a8d886d6998843fed0bb47ca6fe27089c5b32c0a36d1d2d08bed3e7", func := "crossway/crosswaylaw02.TallyCompletes", spec := "tallyCompletes", apart := false, narrowed := true }
def TallyCompletesUptoSaid : Prop := tallyCompletesUptoRow.holds Try.pinned (OpenSpec.upto tallyCompletesSpec)

/-- 'crosswaylaw02.TallyMended', WHERE WHAT IT READS IS OF BULK AT MOST 1048576: true; the input reads as it did. -/
def tallyMendedUptoRow : OpenClaim := { program := "ytgloieofdnpggaa", sum := "31b1f4095a8d886d6998843fed0bb47ca6fe27089c5b32c0a36d1d2d08bed3e7", func := "crossway/crosswaylaw02.TallyMended", spec := "tallyMended", apart := false, narrowed := true }
def TallyMendedUptoSaid : Prop := tallyMendedUptoRow.holds Try.pinned (OpenSpec.upto tallyMendedSpec)

/-- 'crosswaylaw02.TallyOrder', WHERE WHAT IT READS IS OF BULK AT MOST 1048576: true; the input reads as it did. -/
def tallyOrderUptoRow : OpenClaim := { program := "ytgloieofdnpggaa", sum := "31b1f4095a8d886d6998843fed0bb47ca6fe27089c5b32c0a36d1d2d08bed3e7", func := "crossway/crosswaylaw02.TallyOrder", spec := "tallyOrder", apart := false, narrowed := true }
def TallyOrderUptoSaid : Prop := tallyOrderUptoRow.holds Try.pinned (OpenSpec.upto tallyOrderSpec)

end Rows
end Go.Proofs.Ytgloieofdnpggaa
