/-
  No cell of these rows narrows 'for every input' (looked for: loops, veiled, ifaces, maps, wideKeys, modest, calm, conditions, laid).
  DERIVED. THE GIVEN ROWS OF THIS SEAT. 7 by the template 'for every input the law returns true; each argument reads behind the call as it read before'; 0 by the template 'total and deterministic' (their statements: YtmkjeidejgbicaaTotals.lean).
  GIVEN WITH THE SEED: the statements are not yours to turn. If you find one false, say at which input.
  Laid BY PROGRAM, IN A SANDBOX (cutbox-rows.mjs): the forced cells as the released guide's own fill.sh prints them over the translation dfa40b2de2ce23fc… (all of the seat's roots in one cut). By AI agents, Wed Nov 11 2026. No macro, syntax, notation, axiom, sorry.
-/
import Derived.Test.YtmkjeidejgbicaaChecked
import GoSem.Claim
import GoSem.ClaimJoined
import GoSem.ClaimMapViews
import Derived.JoinedTies
import Derived.KernelRfl
namespace Go.Proofs.Ytmkjeidejgbicaa
/- THE CELL 'sum', in the pinned program and in every row, IS THE sha256 OF THE DUMP (.gsa) THAT YtmkjeidejgbicaaProg.lean LOADS. Nothing in Lean hashes anything: it is a label: what it is worth is what the hold of that sum in a sandbox is worth. -/
noncomputable def Try.pinned : Pinned := { name := "ytmkjeidejgbicaa", sum := "dfa40b2de2ce23fc1e45a0ca5779ce4b32c7043607483774418e15aa463f2324", checked := Try.checked }
namespace Rows
def none {H : Type} : Left H := { results := [], args := [] }

/-- 'crosswaylaw08.IcmpLays': WHATEVER THE INPUT: true; the input reads as it did. -/
def icmpLaysSpec : ChangeSpec := { name := "icmpLays", fn := fun _ => fun
  | [d1, d2] => { results := [.lit (.bool true)], args := [d1, d2] }
  | _ => none }
def icmpLaysRow : OpenClaim := { program := "ytmkjeidejgbicaa", sum := "dfa40b2de2ce23fc1e45a0ca5779ce4b32c7043607483774418e15aa463f2324", func := "crossway/crosswaylaw08.IcmpLays", spec := "icmpLays", unfollowed := true, recurses := true, apart := false }
def IcmpLaysSaid : Prop := icmpLaysRow.holds Try.pinned (OpenSpec.ofChange icmpLaysSpec)

/-- ITS FALSE NEIGHBOUR: 'it returns false'. Refute it at one input. -/
def icmpLaysWrong : ChangeSpec := { name := "icmpLays", fn := fun _ => fun
  | [d1, d2] => { results := [.lit (.bool false)], args := [d1, d2] }
  | _ => none }
def IcmpLaysWrongFalsely : Prop := icmpLaysRow.holds Try.pinned (OpenSpec.ofChange icmpLaysWrong)

/-- 'crosswaylaw08.IcmpTakes': WHATEVER THE INPUT: true; the input reads as it did. -/
def icmpTakesSpec : ChangeSpec := { name := "icmpTakes", fn := fun _ => fun
  | [d1, d2, d3] => { results := [.lit (.bool true)], args := [d1, d2, d3] }
  | _ => none }
def icmpTakesRow : OpenClaim := { program := "ytmkjeidejgbicaa", sum := "dfa40b2de2ce23fc1e45a0ca5779ce4b32c7043607483774418e15aa463f2324", func := "crossway/crosswaylaw08.IcmpTakes", spec := "icmpTakes", unfollowed := true, recurses := true, apart := false }
def IcmpTakesSaid : Prop := icmpTakesRow.holds Try.pinned (OpenSpec.ofChange icmpTakesSpec)

/-- ITS FALSE NEIGHBOUR: 'it returns false'. Refute it at one input. -/
def icmpTakesWrong : ChangeSpec := { name := "icmpTakes", fn := fun _ => fun
  | [d1, d2, d3] => { results := [.lit (.bool false)], args := [d1, d2, d3] }
  | _ => none }
def IcmpTakesWrongFalsely : Prop := icmpTakesRow.holds Try.pinned (OpenSpec.ofChange icmpTakesWrong)

/-- 'crosswaylaw08.IcmpTells': WHATEVER THE INPUT: true; the input reads as it did. -/
def icmpTellsSpec : ChangeSpec := { name := "icmpTells", fn := fun _ => fun
  | [d] => { results := [.lit (.bool true)], args := [d] }
  | _ => none }
def icmpTellsRow : OpenClaim := { program := "ytmkjeidejgbicaa", sum := "dfa40b2de2ce23fc1e45a0ca5779ce4b32c7043607483774418e15aa463f2324", func := "crossway/crosswaylaw08.IcmpTells", spec := "icmpTells", unfollowed := true, recurses := true, apart := false }
def IcmpTellsSaid : Prop := icmpTellsRow.holds Try.pinned (OpenSpec.ofChange icmpTellsSpec)

/-- ITS FALSE NEIGHBOUR: 'it returns false'. Refute it at one input. -/
def icmpTellsWrong : ChangeSpec := { name := "icmpTells", fn := fun _ => fun
  | [d] => { results := [.lit (.bool false)], args := [d] }
  | _ => none }
def IcmpTellsWrongFalsely : Prop := icmpTellsRow.holds Try.pinned (OpenSpec.ofChange icmpTellsWrong)

/-- 'crosswaylaw08.IcmpBack': WHATEVER THE INPUT: true; the input reads as it did. -/
def icmpBackSpec : ChangeSpec := { name := "icmpBack", fn := fun _ => fun
  | [d1, d2] => { results := [.lit (.bool true)], args := [d1, d2] }
  | _ => none }
def icmpBackRow : OpenClaim := { program := "ytmkjeidejgbicaa", sum := "dfa40b2de2ce23fc1e45a0ca5779ce4b32c7043607483774418e15aa463f2324", func := "crossway/crosswaylaw08.IcmpBack", spec := "icmpBack", unfollowed := true, recurses := true, apart := false }
def IcmpBackSaid : Prop := icmpBackRow.holds Try.pinned (OpenSpec.ofChange icmpBackSpec)

/-- ITS FALSE NEIGHBOUR: 'it returns false'. Refute it at one input. -/
def icmpBackWrong : ChangeSpec := { name := "icmpBack", fn := fun _ => fun
  | [d1, d2] => { results := [.lit (.bool false)], args := [d1, d2] }
  | _ => none }
def IcmpBackWrongFalsely : Prop := icmpBackRow.holds Try.pinned (OpenSpec.ofChange icmpBackWrong)

/-- 'crosswaylaw08.IcmpTurned': WHATEVER THE INPUT: true; the input reads as it did. -/
def icmpTurnedSpec : ChangeSpec := { name := "icmpTurned", fn := fun _ => fun
  | [d1, d2, d3, d4] => { results := [.lit (.bool true)], args := [d1, d2, d3, d4] }
  | _ => none }
def icmpTurnedRow : OpenClaim := { program := "ytmkjeidejgbicaa", sum := "dfa40b2de2ce23fc1e45a0ca5779ce4b32c7043607483774418e15aa463f2324", func := "crossway/crosswaylaw08.IcmpTurned", spec := "icmpTurned", unfollowed := true, recurses := true, apart := false }
def IcmpTurnedSaid : Prop := icmpTurnedRow.holds Try.pinned (OpenSpec.ofChange icmpTurnedSpec)

/-- ITS FALSE NEIGHBOUR: 'it returns false'. Refute it at one input. -/
def icmpTurnedWrong : ChangeSpec := { name := "icmpTurned", fn := fun _ => fun
  | [d1, d2, d3, d4] => { results := [.lit (.bool false)], args := [d1, d2, d3, d4] }
  | _ => none }
def IcmpTurnedWrongFalsely : Prop := icmpTurnedRow.holds Try.pinned (OpenSpec.ofChange icmpTurnedWrong)

/-- 'crosswaylaw08.IcmpApart': WHATEVER THE INPUT: true; the input reads as it did. -/
def icmpApartSpec : ChangeSpec := { name := "icmpApart", fn := fun _ => fun
  | [d1, d2, d3] => { results := [.lit (.bool true)], args := [d1, d2, d3] }
  | _ => none }
def icmpApartRow : OpenClaim := { program := "ytmkjeidejgbicaa", sum := "dfa40b2de2ce23fc1e45a0ca5779ce4b32c7043607483774418e15aa463f2324", func := "crossway/crosswaylaw08.IcmpApart", spec := "icmpApart", unfollowed := true, recurses := true, apart := false }
def IcmpApartSaid : Prop := icmpApartRow.holds Try.pinned (OpenSpec.ofChange icmpApartSpec)

/-- ITS FALSE NEIGHBOUR: 'it returns false'. Refute it at one input. -/
def icmpApartWrong : ChangeSpec := { name := "icmpApart", fn := fun _ => fun
  | [d1, d2, d3] => { results := [.lit (.bool false)], args := [d1, d2, d3] }
  | _ => none }
def IcmpApartWrongFalsely : Prop := icmpApartRow.holds Try.pinned (OpenSpec.ofChange icmpApartWrong)

/-- 'crosswaylaw08.IcmpAgain': WHATEVER THE INPUT: true; the input reads as it did. -/
def icmpAgainSpec : ChangeSpec := { name := "icmpAgain", fn := fun _ => fun
  | [d1, d2, d3] => { results := [.lit (.bool true)], args := [d1, d2, d3] }
  | _ => none }
def icmpAgainRow : OpenClaim := { program := "ytmkjeidejgbicaa", sum := "dfa40b2de2ce23fc1e45a0ca5779ce4b32c7043607483774418e15aa463f2324", func := "crossway/crosswaylaw08.IcmpAgain", spec := "icmpAgain", unfollowed := true, recurses := true, apart := false }
def IcmpAgainSaid : Prop := icmpAgainRow.holds Try.pinned (OpenSpec.ofChange icmpAgainSpec)

/-- ITS FALSE NEIGHBOUR: 'it returns false'. Refute it at one input. -/
def icmpAgainWrong : ChangeSpec := { name := "icmpAgain", fn := fun _ => fun
  | [d1, d2, d3] => { results := [.lit (.bool false)], args := [d1, d2, d3] }
  | _ => none }
def IcmpAgainWrongFalsely : Prop := icmpAgainRow.holds Try.pinned (OpenSpec.ofChange icmpAgainWrong)

/- THE SECOND FORM. 'bulk': how many values and letters a reading holds, each counted each time it is reached (what is shared counts as often as it is met; a slice's spare places count too). A statement '..UptoSaid' is the law's where the arguments, and the package variables that the reading takes, are together of bulk at most 1048576: NARROWER than '..Said'. Prove '..Said' where nothing that the law and all that it calls make is longer than what came in: it says more and counts as full. Else prove '..UptoSaid'. A law counts once. -/
mutual
def uptoBulk {H : Type} : DataW H → Nat
  | .lit (.string bytes) => bytes.length + 1
  | .lit _ => 1
  | .nil => 1
  | .ptr d => uptoBulk d + 1
  | .slice elems spare => uptoBulkAll elems + uptoBulkAll spare + 1
  | .agg parts => uptoBulkAll parts + 1
  | .iface _ d => uptoBulk d + 1
  | .map entries => uptoBulkEntries entries + 1
  | .held _ => 1
def uptoBulkAll {H : Type} : List (DataW H) → Nat
  | [] => 0
  | d :: r => uptoBulk d + uptoBulkAll r
def uptoBulkEntries {H : Type} : List (Lit × DataW H) → Nat
  | [] => 0
  | x :: r => uptoBulkEntry x + uptoBulkEntries r
def uptoBulkEntry {H : Type} : Lit × DataW H → Nat
  | (.string bytes, d) => bytes.length + uptoBulk d + 1
  | (_, d) => uptoBulk d + 1
 end
def uptoSmall : (H : Type) → List (DataW H) → Bool := fun _ ds => decide (uptoBulkAll ds ≤ 1048576)
def OpenSpec.upto (s : _root_.Go.ChangeSpec) : _root_.Go.OpenSpec := { _root_.Go.OpenSpec.ofChange s with cond := some uptoSmall }

/-- 'crosswaylaw08.IcmpLays', WHERE WHAT IT READS IS OF BULK AT MOST 1048576: true; the input reads as it did. -/
def icmpLaysUptoRow : OpenClaim := { program := "ytmkjeidejgbicaa", sum := "dfa40b2de2ce23fc1e45a0ca5779ce4b32c7043607483774418e15aa463f2324", func := "crossway/crosswaylaw08.IcmpLays", spec := "icmpLays", unfollowed := true, recurses := true, apart := false, narrowed := true }
def IcmpLaysUptoSaid : Prop := icmpLaysUptoRow.holds Try.pinned (OpenSpec.upto icmpLaysSpec)

/-- 'crosswaylaw08.IcmpTakes', WHERE WHAT IT READS IS OF BULK AT MOST 1048576: true; the input reads as it did. -/
def icmpTakesUptoRow : OpenClaim := { program := "ytmkjeidejgbicaa", sum := "dfa40b2de2ce23fc1e45a0ca5779ce4b32c7043607483774418e15aa463f2324", func := "crossway/crosswaylaw08.IcmpTakes", spec := "icmpTakes", unfollowed := true, recurses := true, apart := false, narrowed := true }
def IcmpTakesUptoSaid : Prop := icmpTakesUptoRow.holds Try.pinned (OpenSpec.upto icmpTakesSpec)

/-- 'crosswaylaw08.IcmpTells', WHERE WHAT IT READS IS OF BULK AT MOST 1048576: true; the input reads as it did. -/
def icmpTellsUptoRow : OpenClaim := { program := "ytmkjeidejgbicaa", sum := "dfa40b2de2ce23fc1e45a0ca5779ce4b32c7043607483774418e15aa463f2324", func := "crossway/crosswaylaw08.IcmpTells", spec := "icmpTells", unfollowed := true, recurses := true, apart := false, narrowed := true }
def IcmpTellsUptoSaid : Prop := icmpTellsUptoRow.holds Try.pinned (OpenSpec.upto icmpTellsSpec)

/-- 'crosswaylaw08.IcmpBack', WHERE WHAT IT READS IS OF BULK AT MOST 1048576: true; the input reads as it did. -/
def icmpBackUptoRow : OpenClaim := { program := "ytmkjeidejgbicaa", sum := "dfa40b2de2ce23fc1e45a0ca5779ce4b32c7043607483774418e15aa463f2324", func := "crossway/crosswaylaw08.IcmpBack", spec := "icmpBack", unfollowed := true, recurses := true, apart := false, narrowed := true }
def IcmpBackUptoSaid : Prop := icmpBackUptoRow.holds Try.pinned (OpenSpec.upto icmpBackSpec)

/-- 'crosswaylaw08.IcmpTurned', WHERE WHAT IT READS IS OF BULK AT MOST 1048576: true; the input reads as it did. -/
def icmpTurnedUptoRow : OpenClaim := { program := "ytmkjeidejgbicaa", sum := "dfa40b2de2ce23fc1e45a0ca5779ce4b32c7043607483774418e15aa463f2324", func := "crossway/crosswaylaw08.IcmpTurned", spec := "icmpTurned", unfollowed := true, recurses := true, apart := false, narrowed := true }
def IcmpTurnedUptoSaid : Prop := icmpTurnedUptoRow.holds Try.pinned (OpenSpec.upto icmpTurnedSpec)

/-- 'crosswaylaw08.IcmpApart', WHERE WHAT IT READS IS OF BULK AT MOST 1048576: true; the input reads as it did. -/
def icmpApartUptoRow : OpenClaim := { program := "ytmkjeidejgbicaa", sum := "dfa40b2de2ce23fc1e45a0ca5779ce4b32c7043607483774418e15aa463f2324", func := "crossway/crosswaylaw08.IcmpApart", spec := "icmpApart", unfollowed := true, recurses := true, apart := false, narrowed := true }
def IcmpApartUptoSaid : Prop := icmpApartUptoRow.holds Try.pinned (OpenSpec.upto icmpApartSpec)

/-- 'crosswaylaw08.IcmpAgain', WHERE WHAT IT READS IS OF BULK AT MOST 1048576: true; the input reads as it did. -/
def icmpAgainUptoRow : OpenClaim := { program := "ytmkjeidejgbicaa", sum := "dfa40b2de2ce23fc1e45a0ca5779ce4b32c7043607483774418e15aa463f2324", func := "crossway/crosswaylaw08.IcmpAgain", spec := "icmpAgain", unfollowed := true, recurses := true, apart := false, narrowed := true }
def IcmpAgainUptoSaid : Prop := icmpAgainUptoRow.holds Try.pinned (OpenSpec.upto icmpAgainSpec)

end Rows
end Go.Proofs.Ytmkjeidejgbicaa
