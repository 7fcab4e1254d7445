/-
  NARROWER THAN 'FOR EVERY INPUT', by the rows' own cells (each row's printed sentence says how): EtherLays: laid · EtherTakes: laid · EtherBack: laid · EtherAgain: laid · EtherAsks: laid · EtherMacs: laid · EtherGroups: laid.
  DERIVED. THE GIVEN ROWS OF THIS SEAT. 7 by the template 'for every input the law returns true; each argument reads behind the call as it read before'; 0 by the template 'total and deterministic' (their statements: YthajbaheejdoaaaDoorTotals.lean).
  GIVEN WITH THE SEED: the statements are not yours to turn. If you find one false, say at which input.
  Laid BY PROGRAM, IN A SANDBOX (cutbox-rows.mjs): the forced cells as the released guide's own fill.sh prints them over the translation 89bc3229a8a8490e… (all of the seat's roots in one cut). By AI agents, Wed Nov 11 2026. No macro, syntax, notation, axiom, sorry.
-/
import Derived.Test.YthajbaheejdoaaaDoorChecked
import GoSem.Claim
import GoSem.ClaimJoined
import GoSem.ClaimMapViews
import Derived.JoinedTies
import Derived.KernelRfl
namespace Go.Proofs.YthajbaheejdoaaaDoor
/- THE CELL 'sum', in the pinned program and in every row, IS THE sha256 OF THE DUMP (.gsa) THAT YthajbaheejdoaaaDoorProg.lean LOADS. Nothing in Lean hashes anything: it is a label: what it is worth is what the hold of that sum in a sandbox is worth. -/
noncomputable def Tryd.pinned : Pinned := { name := "ythajbaheejdoaaadoor", sum := "89bc3229a8a8490ec4ea70660eea993d64a8cc21d03cb8fe820eef0ae56d37e6", checked := Tryd.checked }
namespace Rows
def none {H : Type} : Left H := { results := [], args := [] }

/- WHAT THE LISTED PACKAGE-LEVEL VARIABLES READ AS WHEN THE CALL BEGINS. Each datum BY PROGRAM (the guide's laid-datum.mjs) off the statement by which the dump's own 'gosem.cut.vars' lays the variable. In a bare row this is a premise. The card (YthajbaheejdoaaaDoorCards.lean) ties it to the program's text. -/
def laid_crossway_ether_fields {H : Type} : DataW H := .agg [.agg [.lit (.int .i64 2), .lit (.int .u64 1)], .agg [.lit (.int .i64 2), .lit (.int .u64 2048)], .agg [.lit (.int .i64 1), .lit (.int .u64 6)], .agg [.lit (.int .i64 1), .lit (.int .u64 4)], .agg [.lit (.int .i64 2), .lit (.int .u64 0)], .agg [.lit (.int .i64 6), .lit (.int .u64 0)], .agg [.lit (.int .i64 4), .lit (.int .u64 0)], .agg [.lit (.int .i64 6), .lit (.int .u64 0)], .agg [.lit (.int .i64 4), .lit (.int .u64 0)]]

/-- 'crosswaylaw05.EtherLays': WHATEVER THE INPUT: true; the input reads as it did. -/
def etherLaysSpec : ChangeSpec := { name := "etherLays", fn := fun _ => fun
  | [d1, d2] => { results := [.lit (.bool true)], args := [d1, d2] }
  | _ => none }
def etherLaysRow : OpenClaim := { program := "ythajbaheejdoaaadoor", sum := "89bc3229a8a8490ec4ea70660eea993d64a8cc21d03cb8fe820eef0ae56d37e6", func := "crossway/crosswaylaw05.EtherLays", spec := "etherLays", named := ["crossway/ether.fields"], apart := false, laid := [("crossway/ether.fields", laid_crossway_ether_fields)] }
def EtherLaysSaid : Prop := etherLaysRow.holds Tryd.pinned (OpenSpec.ofChange etherLaysSpec)

/-- ITS FALSE NEIGHBOUR: 'it returns false'. Refute it at one input. -/
def etherLaysWrong : ChangeSpec := { name := "etherLays", fn := fun _ => fun
  | [d1, d2] => { results := [.lit (.bool false)], args := [d1, d2] }
  | _ => none }
def EtherLaysWrongFalsely : Prop := etherLaysRow.holds Tryd.pinned (OpenSpec.ofChange etherLaysWrong)

/-- 'crosswaylaw05.EtherTakes': WHATEVER THE INPUT: true; the input reads as it did. -/
def etherTakesSpec : ChangeSpec := { name := "etherTakes", fn := fun _ => fun
  | [d] => { results := [.lit (.bool true)], args := [d] }
  | _ => none }
def etherTakesRow : OpenClaim := { program := "ythajbaheejdoaaadoor", sum := "89bc3229a8a8490ec4ea70660eea993d64a8cc21d03cb8fe820eef0ae56d37e6", func := "crossway/crosswaylaw05.EtherTakes", spec := "etherTakes", named := ["crossway/ether.fields"], apart := false, laid := [("crossway/ether.fields", laid_crossway_ether_fields)] }
def EtherTakesSaid : Prop := etherTakesRow.holds Tryd.pinned (OpenSpec.ofChange etherTakesSpec)

/-- ITS FALSE NEIGHBOUR: 'it returns false'. Refute it at one input. -/
def etherTakesWrong : ChangeSpec := { name := "etherTakes", fn := fun _ => fun
  | [d] => { results := [.lit (.bool false)], args := [d] }
  | _ => none }
def EtherTakesWrongFalsely : Prop := etherTakesRow.holds Tryd.pinned (OpenSpec.ofChange etherTakesWrong)

/-- 'crosswaylaw05.EtherBack': WHATEVER THE INPUT: true; the input reads as it did. -/
def etherBackSpec : ChangeSpec := { name := "etherBack", fn := fun _ => fun
  | [d] => { results := [.lit (.bool true)], args := [d] }
  | _ => none }
def etherBackRow : OpenClaim := { program := "ythajbaheejdoaaadoor", sum := "89bc3229a8a8490ec4ea70660eea993d64a8cc21d03cb8fe820eef0ae56d37e6", func := "crossway/crosswaylaw05.EtherBack", spec := "etherBack", named := ["crossway/ether.fields"], apart := false, laid := [("crossway/ether.fields", laid_crossway_ether_fields)] }
def EtherBackSaid : Prop := etherBackRow.holds Tryd.pinned (OpenSpec.ofChange etherBackSpec)

/-- ITS FALSE NEIGHBOUR: 'it returns false'. Refute it at one input. -/
def etherBackWrong : ChangeSpec := { name := "etherBack", fn := fun _ => fun
  | [d] => { results := [.lit (.bool false)], args := [d] }
  | _ => none }
def EtherBackWrongFalsely : Prop := etherBackRow.holds Tryd.pinned (OpenSpec.ofChange etherBackWrong)

/-- 'crosswaylaw05.EtherAgain': WHATEVER THE INPUT: true; the input reads as it did. -/
def etherAgainSpec : ChangeSpec := { name := "etherAgain", fn := fun _ => fun
  | [d] => { results := [.lit (.bool true)], args := [d] }
  | _ => none }
def etherAgainRow : OpenClaim := { program := "ythajbaheejdoaaadoor", sum := "89bc3229a8a8490ec4ea70660eea993d64a8cc21d03cb8fe820eef0ae56d37e6", func := "crossway/crosswaylaw05.EtherAgain", spec := "etherAgain", named := ["crossway/ether.fields"], apart := false, laid := [("crossway/ether.fields", laid_crossway_ether_fields)] }
def EtherAgainSaid : Prop := etherAgainRow.holds Tryd.pinned (OpenSpec.ofChange etherAgainSpec)

/-- ITS FALSE NEIGHBOUR: 'it returns false'. Refute it at one input. -/
def etherAgainWrong : ChangeSpec := { name := "etherAgain", fn := fun _ => fun
  | [d] => { results := [.lit (.bool false)], args := [d] }
  | _ => none }
def EtherAgainWrongFalsely : Prop := etherAgainRow.holds Tryd.pinned (OpenSpec.ofChange etherAgainWrong)

/-- 'crosswaylaw05.EtherAsks': WHATEVER THE INPUT: true; the input reads as it did. -/
def etherAsksSpec : ChangeSpec := { name := "etherAsks", fn := fun _ => fun
  | [d1, d2, d3] => { results := [.lit (.bool true)], args := [d1, d2, d3] }
  | _ => none }
def etherAsksRow : OpenClaim := { program := "ythajbaheejdoaaadoor", sum := "89bc3229a8a8490ec4ea70660eea993d64a8cc21d03cb8fe820eef0ae56d37e6", func := "crossway/crosswaylaw05.EtherAsks", spec := "etherAsks", named := ["crossway/ether.fields"], apart := false, laid := [("crossway/ether.fields", laid_crossway_ether_fields)] }
def EtherAsksSaid : Prop := etherAsksRow.holds Tryd.pinned (OpenSpec.ofChange etherAsksSpec)

/-- ITS FALSE NEIGHBOUR: 'it returns false'. Refute it at one input. -/
def etherAsksWrong : ChangeSpec := { name := "etherAsks", fn := fun _ => fun
  | [d1, d2, d3] => { results := [.lit (.bool false)], args := [d1, d2, d3] }
  | _ => none }
def EtherAsksWrongFalsely : Prop := etherAsksRow.holds Tryd.pinned (OpenSpec.ofChange etherAsksWrong)

/-- 'crosswaylaw05.EtherMacs': WHATEVER THE INPUT: true; the input reads as it did. -/
def etherMacsSpec : ChangeSpec := { name := "etherMacs", fn := fun _ => fun
  | [d1, d2] => { results := [.lit (.bool true)], args := [d1, d2] }
  | _ => none }
def etherMacsRow : OpenClaim := { program := "ythajbaheejdoaaadoor", sum := "89bc3229a8a8490ec4ea70660eea993d64a8cc21d03cb8fe820eef0ae56d37e6", func := "crossway/crosswaylaw05.EtherMacs", spec := "etherMacs", named := ["crossway/ether.fields"], apart := false, laid := [("crossway/ether.fields", laid_crossway_ether_fields)] }
def EtherMacsSaid : Prop := etherMacsRow.holds Tryd.pinned (OpenSpec.ofChange etherMacsSpec)

/-- ITS FALSE NEIGHBOUR: 'it returns false'. Refute it at one input. -/
def etherMacsWrong : ChangeSpec := { name := "etherMacs", fn := fun _ => fun
  | [d1, d2] => { results := [.lit (.bool false)], args := [d1, d2] }
  | _ => none }
def EtherMacsWrongFalsely : Prop := etherMacsRow.holds Tryd.pinned (OpenSpec.ofChange etherMacsWrong)

/-- 'crosswaylaw05.EtherGroups': WHATEVER THE INPUT: true; the input reads as it did. -/
def etherGroupsSpec : ChangeSpec := { name := "etherGroups", fn := fun _ => fun
  | [d] => { results := [.lit (.bool true)], args := [d] }
  | _ => none }
def etherGroupsRow : OpenClaim := { program := "ythajbaheejdoaaadoor", sum := "89bc3229a8a8490ec4ea70660eea993d64a8cc21d03cb8fe820eef0ae56d37e6", func := "crossway/crosswaylaw05.EtherGroups", spec := "etherGroups", named := ["crossway/ether.fields"], apart := false, laid := [("crossway/ether.fields", laid_crossway_ether_fields)] }
def EtherGroupsSaid : Prop := etherGroupsRow.holds Tryd.pinned (OpenSpec.ofChange etherGroupsSpec)

/-- ITS FALSE NEIGHBOUR: 'it returns false'. Refute it at one input. -/
def etherGroupsWrong : ChangeSpec := { name := "etherGroups", fn := fun _ => fun
  | [d] => { results := [.lit (.bool false)], args := [d] }
  | _ => none }
def EtherGroupsWrongFalsely : Prop := etherGroupsRow.holds Tryd.pinned (OpenSpec.ofChange etherGroupsWrong)

/- THE SECOND FORM. 'bulk': how many values and letters a reading holds, each counted each time it is reached (what is shared counts as often as it is met; a slice's spare places count too). A statement '..UptoSaid' is the law's where the arguments, and the package variables that the reading takes, are together of bulk at most 1048576: NARROWER than '..Said'. Prove '..Said' where nothing that the law and all that it calls make is longer than what came in: it says more and counts as full. Else prove '..UptoSaid'. A law counts once. -/
mutual
def uptoBulk {H : Type} : DataW H → Nat
  | .lit (.string bytes) => bytes.length + 1
  | .lit _ => 1
  | .nil => 1
  | .ptr d => uptoBulk d + 1
  | .slice elems spare => uptoBulkAll elems + uptoBulkAll spare + 1
  | .agg parts => uptoBulkAll parts + 1
  | .iface _ d => uptoBulk d + 1
  | .map entries => uptoBulkEntries entries + 1
  | .held _ => 1
def uptoBulkAll {H : Type} : List (DataW H) → Nat
  | [] => 0
  | d :: r => uptoBulk d + uptoBulkAll r
def uptoBulkEntries {H : Type} : List (Lit × DataW H) → Nat
  | [] => 0
  | x :: r => uptoBulkEntry x + uptoBulkEntries r
def uptoBulkEntry {H : Type} : Lit × DataW H → Nat
  | (.string bytes, d) => bytes.length + uptoBulk d + 1
  | (_, d) => uptoBulk d + 1
 end
def uptoSmall : (H : Type) → List (DataW H) → Bool := fun _ ds => decide (uptoBulkAll ds ≤ 1048576)
def OpenSpec.upto (s : _root_.Go.ChangeSpec) : _root_.Go.OpenSpec := { _root_.Go.OpenSpec.ofChange s with cond := some uptoSmall }

/-- 'crosswaylaw05.EtherLays', WHERE WHAT IT READS IS OF BULK AT MOST 1048576: true; the input reads as it did. -/
def etherLaysUptoRow : OpenClaim := { program := "ythajbaheejdoaaadoor", sum := "89bc3229a8a8490ec4ea70660eea993d64a8cc21d03cb8fe820eef0ae56d37e6", func := "crossway/crosswaylaw05.EtherLays", spec := "etherLays", named := ["crossway/ether.fields"], apart := false, laid := [("crossway/ether.fields", laid_crossway_ether_fields)], narrowed := true }
def EtherLaysUptoSaid : Prop := etherLaysUptoRow.holds Tryd.pinned (OpenSpec.upto etherLaysSpec)

/-- 'crosswaylaw05.EtherTakes', WHERE WHAT IT READS IS OF BULK AT MOST 1048576: true; the input reads as it did. -/
def etherTakesUptoRow : OpenClaim := { program := "ythajbaheejdoaaadoor", sum := "89bc3229a8a8490ec4ea70660eea993d64a8cc21d03cb8fe820eef0ae56d37e6", func := "crossway/crosswaylaw05.EtherTakes", spec := "etherTakes", named := ["crossway/ether.fields"], apart := false, laid := [("crossway/ether.fields", laid_crossway_ether_fields)], narrowed := true }
def EtherTakesUptoSaid : Prop := etherTakesUptoRow.holds Tryd.pinned (OpenSpec.upto etherTakesSpec)

/-- 'crosswaylaw05.EtherBack', WHERE WHAT IT READS IS OF BULK AT MOST 1048576: true; the input reads as it did. -/
def etherBackUptoRow : OpenClaim := { program := "ythajbaheejdoaaadoor", sum := "89bc3229a8a8490ec4ea70660eea993d64a8cc21d03cb8fe820eef0ae56d37e6", func := "crossway/crosswaylaw05.EtherBack", spec := "etherBack", named := ["crossway/ether.fields"], apart := false, laid := [("crossway/ether.fields", laid_crossway_ether_fields)], narrowed := true }
def EtherBackUptoSaid : Prop := etherBackUptoRow.holds Tryd.pinned (OpenSpec.upto etherBackSpec)

/-- 'crosswaylaw05.EtherAgain', WHERE WHAT IT READS IS OF BULK AT MOST 1048576: true; the input reads as it did. -/
def etherAgainUptoRow : OpenClaim := { program := "ythajbaheejdoaaadoor", sum := "89bc3229a8a8490ec4ea70660eea993d64a8cc21d03cb8fe820eef0ae56d37e6", func := "crossway/crosswaylaw05.EtherAgain", spec := "etherAgain", named := ["crossway/ether.fields"], apart := false, laid := [("crossway/ether.fields", laid_crossway_ether_fields)], narrowed := true }
def EtherAgainUptoSaid : Prop := etherAgainUptoRow.holds Tryd.pinned (OpenSpec.upto etherAgainSpec)

/-- 'crosswaylaw05.EtherAsks', WHERE WHAT IT READS IS OF BULK AT MOST 1048576: true; the input reads as it did. -/
def etherAsksUptoRow : OpenClaim := { program := "ythajbaheejdoaaadoor", sum := "89bc3229a8a8490ec4ea70660eea993d64a8cc21d03cb8fe820eef0ae56d37e6", func := "crossway/crosswaylaw05.EtherAsks", spec := "etherAsks", named := ["crossway/ether.fields"], apart := false, laid := [("crossway/ether.fields", laid_crossway_ether_fields)], narrowed := true }
def EtherAsksUptoSaid : Prop := etherAsksUptoRow.holds Tryd.pinned (OpenSpec.upto etherAsksSpec)

/-- 'crosswaylaw05.EtherMacs', WHERE WHAT IT READS IS OF BULK AT MOST 1048576: true; the input reads as it did. -/
def etherMacsUptoRow : OpenClaim := { program := "ythajbaheejdoaaadoor", sum := "89bc3229a8a8490ec4ea70660eea993d64a8cc21d03cb8fe820eef0ae56d37e6", func := "crossway/crosswaylaw05.EtherMacs", spec := "etherMacs", named := ["crossway/ether.fields"], apart := false, laid := [("crossway/ether.fields", laid_crossway_ether_fields)], narrowed := true }
def EtherMacsUptoSaid : Prop := etherMacsUptoRow.holds Tryd.pinned (OpenSpec.upto etherMacsSpec)

/-- 'crosswaylaw05.EtherGroups', WHERE WHAT IT READS IS OF BULK AT MOST 1048576: true; the input reads as it did. -/
def etherGroupsUptoRow : OpenClaim := { program := "ythajbaheejdoaaadoor", sum := "89bc3229a8a8490ec4ea70660eea993d64a8cc21d03cb8fe820eef0ae56d37e6", func := "crossway/crosswaylaw05.EtherGroups", spec := "etherGroups", named := ["crossway/ether.fields"], apart := false, laid := [("crossway/ether.fields", laid_crossway_ether_fields)], narrowed := true }
def EtherGroupsUptoSaid : Prop := etherGroupsUptoRow.holds Tryd.pinned (OpenSpec.upto etherGroupsSpec)

end Rows
end Go.Proofs.YthajbaheejdoaaaDoor
