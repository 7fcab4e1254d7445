/-
  NARROWER THAN 'FOR EVERY INPUT', by the rows' own cells (each row's printed sentence says how): ExcuseKinds: laid · ExcuseTells: laid · ExcuseNever: laid · ExcuseBehind: laid · ExcuseWhom: laid · ExcuseQuotes: laid.
  DERIVED. THE GIVEN ROWS OF THIS SEAT. 6 by the template 'for every input the law returns true; each argument reads behind the call as it read before'; 0 by the template 'total and deterministic' (their statements: YtaoopneiglgnkaaDoorTotals.lean).
  GIVEN WITH THE SEED: the statements are not yours to turn. If you find one false, say at which input.
  Laid BY PROGRAM, IN A SANDBOX (cutbox-rows.mjs): the forced cells as the released guide's own fill.sh prints them over the translation dc5804dedc47055f… (all of the seat's roots in one cut). By AI agents, Wed Nov 11 2026. No macro, syntax, notation, axiom, sorry.
-/
import Derived.Test.YtaoopneiglgnkaaDoorChecked
import GoSem.Claim
import GoSem.ClaimJoined
import GoSem.ClaimMapViews
import Derived.JoinedTies
import Derived.KernelRfl
namespace Go.Proofs.YtaoopneiglgnkaaDoor
/- THE CELL 'sum', in the pinned program and in every row, IS THE sha256 OF THE DUMP (.gsa) THAT YtaoopneiglgnkaaDoorProg.lean LOADS. Nothing in Lean hashes anything: it is a label: what it is worth is what the hold of that sum in a sandbox is worth. -/
noncomputable def Tryd.pinned : Pinned := { name := "ytaoopneiglgnkaadoor", sum := "dc5804dedc47055f009ea3c1b2d7e335293bce3b9ccd7c1d1c75d050ed64e7ac", checked := Tryd.checked }
namespace Rows
def none {H : Type} : Left H := { results := [], args := [] }

/- WHAT THE LISTED PACKAGE-LEVEL VARIABLES READ AS WHEN THE CALL BEGINS. Each datum BY PROGRAM (the guide's laid-datum.mjs) off the statement by which the dump's own 'gosem.cut.vars' lays the variable. In a bare row this is a premise. The card (YtaoopneiglgnkaaDoorCards.lean) ties it to the program's text. -/
def laid_crossway_excuse_table {H : Type} : DataW H := .agg [.agg [.lit (.int .i64 11), .lit (.int .i64 0), .lit (.int .i64 3), .lit (.int .i64 0)], .agg [.lit (.int .i64 3), .lit (.int .i64 0), .lit (.int .i64 1), .lit (.int .i64 0)], .agg [.lit (.int .i64 3), .lit (.int .i64 1), .lit (.int .i64 1), .lit (.int .i64 3)], .agg [.lit (.int .i64 3), .lit (.int .i64 4), .lit (.int .i64 2), .lit (.int .i64 0)], .agg [.lit (.int .i64 3), .lit (.int .i64 13), .lit (.int .i64 1), .lit (.int .i64 1)], .agg [.lit (.int .i64 12), .lit (.int .i64 0), .lit (.int .i64 4), .lit (.int .i64 0)]]

/-- 'crosswaylaw20.ExcuseKinds': WHATEVER THE INPUT: true; the input reads as it did. -/
def excuseKindsSpec : ChangeSpec := { name := "excuseKinds", fn := fun _ => fun
  | [d1, d2] => { results := [.lit (.bool true)], args := [d1, d2] }
  | _ => none }
def excuseKindsRow : OpenClaim := { program := "ytaoopneiglgnkaadoor", sum := "dc5804dedc47055f009ea3c1b2d7e335293bce3b9ccd7c1d1c75d050ed64e7ac", func := "crossway/crosswaylaw20.ExcuseKinds", spec := "excuseKinds", unfollowed := true, recurses := true, named := ["crossway/excuse.table"], apart := false, laid := [("crossway/excuse.table", laid_crossway_excuse_table)] }
def ExcuseKindsSaid : Prop := excuseKindsRow.holds Tryd.pinned (OpenSpec.ofChange excuseKindsSpec)

/-- ITS FALSE NEIGHBOUR: 'it returns false'. Refute it at one input. -/
def excuseKindsWrong : ChangeSpec := { name := "excuseKinds", fn := fun _ => fun
  | [d1, d2] => { results := [.lit (.bool false)], args := [d1, d2] }
  | _ => none }
def ExcuseKindsWrongFalsely : Prop := excuseKindsRow.holds Tryd.pinned (OpenSpec.ofChange excuseKindsWrong)

/-- 'crosswaylaw20.ExcuseTells': WHATEVER THE INPUT: true; the input reads as it did. -/
def excuseTellsSpec : ChangeSpec := { name := "excuseTells", fn := fun _ => fun
  | [d1, d2, d3, d4] => { results := [.lit (.bool true)], args := [d1, d2, d3, d4] }
  | _ => none }
def excuseTellsRow : OpenClaim := { program := "ytaoopneiglgnkaadoor", sum := "dc5804dedc47055f009ea3c1b2d7e335293bce3b9ccd7c1d1c75d050ed64e7ac", func := "crossway/crosswaylaw20.ExcuseTells", spec := "excuseTells", unfollowed := true, recurses := true, named := ["crossway/excuse.table"], apart := false, laid := [("crossway/excuse.table", laid_crossway_excuse_table)] }
def ExcuseTellsSaid : Prop := excuseTellsRow.holds Tryd.pinned (OpenSpec.ofChange excuseTellsSpec)

/-- ITS FALSE NEIGHBOUR: 'it returns false'. Refute it at one input. -/
def excuseTellsWrong : ChangeSpec := { name := "excuseTells", fn := fun _ => fun
  | [d1, d2, d3, d4] => { results := [.lit (.bool false)], args := [d1, d2, d3, d4] }
  | _ => none }
def ExcuseTellsWrongFalsely : Prop := excuseTellsRow.holds Tryd.pinned (OpenSpec.ofChange excuseTellsWrong)

/-- 'crosswaylaw20.ExcuseNever': WHATEVER THE INPUT: true; the input reads as it did. -/
def excuseNeverSpec : ChangeSpec := { name := "excuseNever", fn := fun _ => fun
  | [d1, d2, d3, d4, d5, d6] => { results := [.lit (.bool true)], args := [d1, d2, d3, d4, d5, d6] }
  | _ => none }
def excuseNeverRow : OpenClaim := { program := "ytaoopneiglgnkaadoor", sum := "dc5804dedc47055f009ea3c1b2d7e335293bce3b9ccd7c1d1c75d050ed64e7ac", func := "crossway/crosswaylaw20.ExcuseNever", spec := "excuseNever", unfollowed := true, recurses := true, named := ["crossway/excuse.table"], apart := false, laid := [("crossway/excuse.table", laid_crossway_excuse_table)] }
def ExcuseNeverSaid : Prop := excuseNeverRow.holds Tryd.pinned (OpenSpec.ofChange excuseNeverSpec)

/-- ITS FALSE NEIGHBOUR: 'it returns false'. Refute it at one input. -/
def excuseNeverWrong : ChangeSpec := { name := "excuseNever", fn := fun _ => fun
  | [d1, d2, d3, d4, d5, d6] => { results := [.lit (.bool false)], args := [d1, d2, d3, d4, d5, d6] }
  | _ => none }
def ExcuseNeverWrongFalsely : Prop := excuseNeverRow.holds Tryd.pinned (OpenSpec.ofChange excuseNeverWrong)

/-- 'crosswaylaw20.ExcuseBehind': WHATEVER THE INPUT: true; the input reads as it did. -/
def excuseBehindSpec : ChangeSpec := { name := "excuseBehind", fn := fun _ => fun
  | [d1, d2, d3, d4, d5] => { results := [.lit (.bool true)], args := [d1, d2, d3, d4, d5] }
  | _ => none }
def excuseBehindRow : OpenClaim := { program := "ytaoopneiglgnkaadoor", sum := "dc5804dedc47055f009ea3c1b2d7e335293bce3b9ccd7c1d1c75d050ed64e7ac", func := "crossway/crosswaylaw20.ExcuseBehind", spec := "excuseBehind", unfollowed := true, recurses := true, named := ["crossway/excuse.table"], apart := false, laid := [("crossway/excuse.table", laid_crossway_excuse_table)] }
def ExcuseBehindSaid : Prop := excuseBehindRow.holds Tryd.pinned (OpenSpec.ofChange excuseBehindSpec)

/-- ITS FALSE NEIGHBOUR: 'it returns false'. Refute it at one input. -/
def excuseBehindWrong : ChangeSpec := { name := "excuseBehind", fn := fun _ => fun
  | [d1, d2, d3, d4, d5] => { results := [.lit (.bool false)], args := [d1, d2, d3, d4, d5] }
  | _ => none }
def ExcuseBehindWrongFalsely : Prop := excuseBehindRow.holds Tryd.pinned (OpenSpec.ofChange excuseBehindWrong)

/-- 'crosswaylaw20.ExcuseWhom': WHATEVER THE INPUT: true; the input reads as it did. -/
def excuseWhomSpec : ChangeSpec := { name := "excuseWhom", fn := fun _ => fun
  | [d1, d2, d3] => { results := [.lit (.bool true)], args := [d1, d2, d3] }
  | _ => none }
def excuseWhomRow : OpenClaim := { program := "ytaoopneiglgnkaadoor", sum := "dc5804dedc47055f009ea3c1b2d7e335293bce3b9ccd7c1d1c75d050ed64e7ac", func := "crossway/crosswaylaw20.ExcuseWhom", spec := "excuseWhom", unfollowed := true, recurses := true, named := ["crossway/excuse.table"], apart := false, laid := [("crossway/excuse.table", laid_crossway_excuse_table)] }
def ExcuseWhomSaid : Prop := excuseWhomRow.holds Tryd.pinned (OpenSpec.ofChange excuseWhomSpec)

/-- ITS FALSE NEIGHBOUR: 'it returns false'. Refute it at one input. -/
def excuseWhomWrong : ChangeSpec := { name := "excuseWhom", fn := fun _ => fun
  | [d1, d2, d3] => { results := [.lit (.bool false)], args := [d1, d2, d3] }
  | _ => none }
def ExcuseWhomWrongFalsely : Prop := excuseWhomRow.holds Tryd.pinned (OpenSpec.ofChange excuseWhomWrong)

/-- 'crosswaylaw20.ExcuseQuotes': WHATEVER THE INPUT: true; the input reads as it did. -/
def excuseQuotesSpec : ChangeSpec := { name := "excuseQuotes", fn := fun _ => fun
  | [d1, d2, d3, d4] => { results := [.lit (.bool true)], args := [d1, d2, d3, d4] }
  | _ => none }
def excuseQuotesRow : OpenClaim := { program := "ytaoopneiglgnkaadoor", sum := "dc5804dedc47055f009ea3c1b2d7e335293bce3b9ccd7c1d1c75d050ed64e7ac", func := "crossway/crosswaylaw20.ExcuseQuotes", spec := "excuseQuotes", unfollowed := true, recurses := true, named := ["crossway/excuse.table"], apart := false, laid := [("crossway/excuse.table", laid_crossway_excuse_table)] }
def ExcuseQuotesSaid : Prop := excuseQuotesRow.holds Tryd.pinned (OpenSpec.ofChange excuseQuotesSpec)

/-- ITS FALSE NEIGHBOUR: 'it returns false'. Refute it at one input. -/
def excuseQuotesWrong : ChangeSpec := { name := "excuseQuotes", fn := fun _ => fun
  | [d1, d2, d3, d4] => { results := [.lit (.bool false)], args := [d1, d2, d3, d4] }
  | _ => none }
def ExcuseQuotesWrongFalsely : Prop := excuseQuotesRow.holds Tryd.pinned (OpenSpec.ofChange excuseQuotesWrong)

/- THE SECOND FORM. 'bulk': how many values and letters a reading holds, each counted each time it is reached (what is shared counts as often as it is met; a slice's spare places count too). A statement '..UptoSaid' is the law's where the arguments, and the package variables that the reading takes, are together of bulk at most 1048576: NARROWER than '..Said'. Prove '..Said' where nothing that the law and all that it calls make is longer than what came in: it says more and counts as full. Else prove '..UptoSaid'. A law counts once. -/
mutual
def uptoBulk {H : Type} : DataW H → Nat
  | .lit (.string bytes) => bytes.length + 1
  | .lit _ => 1
  | .nil => 1
  | .ptr d => uptoBulk d + 1
  | .slice elems spare => uptoBulkAll elems + uptoBulkAll spare + 1
  | .agg parts => uptoBulkAll parts + 1
  | .iface _ d => uptoBulk d + 1
  | .map entries => uptoBulkEntries entries + 1
  | .held _ => 1
def uptoBulkAll {H : Type} : List (DataW H) → Nat
  | [] => 0
  | d :: r => uptoBulk d + uptoBulkAll r
def uptoBulkEntries {H : Type} : List (Lit × DataW H) → Nat
  | [] => 0
  | x :: r => uptoBulkEntry x + uptoBulkEntries r
def uptoBulkEntry {H : Type} : Lit × DataW H → Nat
  | (.string bytes, d) => bytes.length + uptoBulk d + 1
  | (_, d) => uptoBulk d + 1
 end
def uptoSmall : (H : Type) → List (DataW H) → Bool := fun _ ds => decide (uptoBulkAll ds ≤ 1048576)
def OpenSpec.upto (s : _root_.Go.ChangeSpec) : _root_.Go.OpenSpec := { _root_.Go.OpenSpec.ofChange s with cond := some uptoSmall }

/-- 'crosswaylaw20.ExcuseKinds', WHERE WHAT IT READS IS OF BULK AT MOST 1048576: true; the input reads as it did. -/
def excuseKindsUptoRow : OpenClaim := { program := "ytaoopneiglgnkaadoor", sum := "dc5804dedc47055f009ea3c1b2d7e335293bce3b9ccd7c1d1c75d050ed64e7ac", func := "crossway/crosswaylaw20.ExcuseKinds", spec := "excuseKinds", unfollowed := true, recurses := true, named := ["crossway/excuse.table"], apart := false, laid := [("crossway/excuse.table", laid_crossway_excuse_table)], narrowed := true }
def ExcuseKindsUptoSaid : Prop := excuseKindsUptoRow.holds Tryd.pinned (OpenSpec.upto excuseKindsSpec)

/-- 'crosswaylaw20.ExcuseTells', WHERE WHAT IT READS IS OF BULK AT MOST 1048576: true; the input reads as it did. -/
def excuseTellsUptoRow : OpenClaim := { program := "ytaoopneiglgnkaadoor", sum := "dc5804dedc47055f009ea3c1b2d7e335293bce3b9ccd7c1d1c75d050ed64e7ac", func := "crossway/crosswaylaw20.ExcuseTells", spec := "excuseTells", unfollowed := true, recurses := true, named := ["crossway/excuse.table"], apart := false, laid := [("crossway/excuse.table", laid_crossway_excuse_table)], narrowed := true }
def ExcuseTellsUptoSaid : Prop := excuseTellsUptoRow.holds Tryd.pinned (OpenSpec.upto excuseTellsSpec)

/-- 'crosswaylaw20.ExcuseNever', WHERE WHAT IT READS IS OF BULK AT MOST 1048576: true; the input reads as it did. -/
def excuseNeverUptoRow : OpenClaim := { program := "ytaoopneiglgnkaadoor", sum := "dc5804dedc47055f009ea3c1b2d7e335293bce3b9ccd7c1d1c75d050ed64e7ac", func := "crossway/crosswaylaw20.ExcuseNever", spec := "excuseNever", unfollowed := true, recurses := true, named := ["crossway/excuse.table"], apart := false, laid := [("crossway/excuse.table", laid_crossway_excuse_table)], narrowed := true }
def ExcuseNeverUptoSaid : Prop := excuseNeverUptoRow.holds Tryd.pinned (OpenSpec.upto excuseNeverSpec)

/-- 'crosswaylaw20.ExcuseBehind', WHERE WHAT IT READS IS OF BULK AT MOST 1048576: true; the input reads as it did. -/
def excuseBehindUptoRow : OpenClaim := { program := "ytaoopneiglgnkaadoor", sum := "dc5804dedc47055f009ea3c1b2d7e335293bce3b9ccd7c1d1c75d050ed64e7ac", func := "crossway/crosswaylaw20.ExcuseBehind", spec := "excuseBehind", unfollowed := true, recurses := true, named := ["crossway/excuse.table"], apart := false, laid := [("crossway/excuse.table", laid_crossway_excuse_table)], narrowed := true }
def ExcuseBehindUptoSaid : Prop := excuseBehindUptoRow.holds Tryd.pinned (OpenSpec.upto excuseBehindSpec)

/-- 'crosswaylaw20.ExcuseWhom', WHERE WHAT IT READS IS OF BULK AT MOST 1048576: true; the input reads as it did. -/
def excuseWhomUptoRow : OpenClaim := { program := "ytaoopneiglgnkaadoor", sum := "dc5804dedc47055f009ea3c1b2d7e335293bce3b9ccd7c1d1c75d050ed64e7ac", func := "crossway/crosswaylaw20.ExcuseWhom", spec := "excuseWhom", unfollowed := true, recurses := true, named := ["crossway/excuse.table"], apart := false, laid := [("crossway/excuse.table", laid_crossway_excuse_table)], narrowed := true }
def ExcuseWhomUptoSaid : Prop := excuseWhomUptoRow.holds Tryd.pinned (OpenSpec.upto excuseWhomSpec)

/-- 'crosswaylaw20.ExcuseQuotes', WHERE WHAT IT READS IS OF BULK AT MOST 1048576: true; the input reads as it did. -/
def excuseQuotesUptoRow : OpenClaim := { program := "ytaoopneiglgnkaadoor", sum := "dc5804dedc47055f009ea3c1b2d7e335293bce3b9ccd7c1d1c75d050ed64e7ac", func := "crossway/crosswaylaw20.ExcuseQuotes", spec := "excuseQuotes", unfollowed := true, recurses := true, named := ["crossway/excuse.table"], apart := false, laid := [("crossway/excuse.table", laid_crossway_excuse_table)], narrowed := true }
def ExcuseQuotesUptoSaid : Prop := excuseQuotesUptoRow.holds Tryd.pinned (OpenSpec.upto excuseQuotesSpec)

end Rows
end Go.Proofs.YtaoopneiglgnkaaDoor
