/-
  No cell of these rows narrows 'for every input' (looked for: loops, veiled, ifaces, maps, wideKeys, modest, calm, conditions, laid).
  DERIVED. THE GIVEN ROWS OF THIS SEAT. 5 by the template 'for every input the law returns true; each argument reads behind the call as it read before'; 0 by the template 'total and deterministic' (their statements: YtedampcicmaamaaTotals.lean).
  GIVEN WITH THE SEED: the statements are not yours to turn. If you find one false, say at which input.
  Laid BY PROGRAM, IN A SANDBOX (cutbox-rows.mjs): the forced cells as the released guide's own fill.sh prints them over the translation 49b374bd176b44c4… (all of the seat's roots in one cut). By AI agents, Wed Nov 11 2026. No macro, syntax, notation, axiom, sorry.
-/
import Derived.Test.YtedampcicmaamaaChecked
import GoSem.Claim
import GoSem.ClaimJoined
import GoSem.ClaimMapViews
import Derived.JoinedTies
import Derived.KernelRfl
namespace Go.Proofs.Ytedampcicmaamaa
/- THE CELL 'sum', in the pinned program and in every row, IS THE sha256 OF THE DUMP (.gsa) THAT YtedampcicmaamaaProg.lean LOADS. Nothing in Lean hashes anything: it is a label: what it is worth is what the hold of that sum in a sandbox is worth. -/
noncomputable def Try.pinned : Pinned := { name := "ytedampcicmaamaa", sum := "49b374bd176b44c44b3748513405640fb9a63130108dccd2b39f3925ce54849b", checked := Try.checked }
namespace Rows
def none {H : Type} : Left H := { results := [], args := [] }

/-- 'crosswaylaw06.FourLays': WHATEVER THE INPUT: true; the input reads as it did. -/
def fourLaysSpec : ChangeSpec := { name := "fourLays", fn := fun _ => fun
  | [d] => { results := [.lit (.bool true)], args := [d] }
  | _ => none }
def fourLaysRow : OpenClaim := { program := "ytedampcicmaamaa", sum := "49b374bd176b44c44b3748513405640fb9a63130108dccd2b39f3925ce54849b", func := "crossway/crosswaylaw06.FourLays", spec := "fourLays", unfollowed := true, recurses := true, apart := false }
def FourLaysSaid : Prop := fourLaysRow.holds Try.pinned (OpenSpec.ofChange fourLaysSpec)

/-- ITS FALSE NEIGHBOUR: 'it returns false'. Refute it at one input. -/
def fourLaysWrong : ChangeSpec := { name := "fourLays", fn := fun _ => fun
  | [d] => { results := [.lit (.bool false)], args := [d] }
  | _ => none }
def FourLaysWrongFalsely : Prop := fourLaysRow.holds Try.pinned (OpenSpec.ofChange fourLaysWrong)

/-- 'crosswaylaw06.FourTakes': WHATEVER THE INPUT: true; the input reads as it did. -/
def fourTakesSpec : ChangeSpec := { name := "fourTakes", fn := fun _ => fun
  | [d] => { results := [.lit (.bool true)], args := [d] }
  | _ => none }
def fourTakesRow : OpenClaim := { program := "ytedampcicmaamaa", sum := "49b374bd176b44c44b3748513405640fb9a63130108dccd2b39f3925ce54849b", func := "crossway/crosswaylaw06.FourTakes", spec := "fourTakes", unfollowed := true, recurses := true, apart := false }
def FourTakesSaid : Prop := fourTakesRow.holds Try.pinned (OpenSpec.ofChange fourTakesSpec)

/-- ITS FALSE NEIGHBOUR: 'it returns false'. Refute it at one input. -/
def fourTakesWrong : ChangeSpec := { name := "fourTakes", fn := fun _ => fun
  | [d] => { results := [.lit (.bool false)], args := [d] }
  | _ => none }
def FourTakesWrongFalsely : Prop := fourTakesRow.holds Try.pinned (OpenSpec.ofChange fourTakesWrong)

/-- 'crosswaylaw06.FourOptions': WHATEVER THE INPUT: true; the input reads as it did. -/
def fourOptionsSpec : ChangeSpec := { name := "fourOptions", fn := fun _ => fun
  | [d] => { results := [.lit (.bool true)], args := [d] }
  | _ => none }
def fourOptionsRow : OpenClaim := { program := "ytedampcicmaamaa", sum := "49b374bd176b44c44b3748513405640fb9a63130108dccd2b39f3925ce54849b", func := "crossway/crosswaylaw06.FourOptions", spec := "fourOptions", unfollowed := true, recurses := true, apart := false }
def FourOptionsSaid : Prop := fourOptionsRow.holds Try.pinned (OpenSpec.ofChange fourOptionsSpec)

/-- ITS FALSE NEIGHBOUR: 'it returns false'. Refute it at one input. -/
def fourOptionsWrong : ChangeSpec := { name := "fourOptions", fn := fun _ => fun
  | [d] => { results := [.lit (.bool false)], args := [d] }
  | _ => none }
def FourOptionsWrongFalsely : Prop := fourOptionsRow.holds Try.pinned (OpenSpec.ofChange fourOptionsWrong)

/-- 'crosswaylaw06.FourBack': WHATEVER THE INPUT: true; the input reads as it did. -/
def fourBackSpec : ChangeSpec := { name := "fourBack", fn := fun _ => fun
  | [d1, d2, d3] => { results := [.lit (.bool true)], args := [d1, d2, d3] }
  | _ => none }
def fourBackRow : OpenClaim := { program := "ytedampcicmaamaa", sum := "49b374bd176b44c44b3748513405640fb9a63130108dccd2b39f3925ce54849b", func := "crossway/crosswaylaw06.FourBack", spec := "fourBack", unfollowed := true, recurses := true, apart := false }
def FourBackSaid : Prop := fourBackRow.holds Try.pinned (OpenSpec.ofChange fourBackSpec)

/-- ITS FALSE NEIGHBOUR: 'it returns false'. Refute it at one input. -/
def fourBackWrong : ChangeSpec := { name := "fourBack", fn := fun _ => fun
  | [d1, d2, d3] => { results := [.lit (.bool false)], args := [d1, d2, d3] }
  | _ => none }
def FourBackWrongFalsely : Prop := fourBackRow.holds Try.pinned (OpenSpec.ofChange fourBackWrong)

/-- 'crosswaylaw06.FourHops': WHATEVER THE INPUT: true; the input reads as it did. -/
def fourHopsSpec : ChangeSpec := { name := "fourHops", fn := fun _ => fun
  | [d] => { results := [.lit (.bool true)], args := [d] }
  | _ => none }
def fourHopsRow : OpenClaim := { program := "ytedampcicmaamaa", sum := "49b374bd176b44c44b3748513405640fb9a63130108dccd2b39f3925ce54849b", func := "crossway/crosswaylaw06.FourHops", spec := "fourHops", unfollowed := true, recurses := true, apart := false }
def FourHopsSaid : Prop := fourHopsRow.holds Try.pinned (OpenSpec.ofChange fourHopsSpec)

/-- ITS FALSE NEIGHBOUR: 'it returns false'. Refute it at one input. -/
def fourHopsWrong : ChangeSpec := { name := "fourHops", fn := fun _ => fun
  | [d] => { results := [.lit (.bool false)], args := [d] }
  | _ => none }
def FourHopsWrongFalsely : Prop := fourHopsRow.holds Try.pinned (OpenSpec.ofChange fourHopsWrong)

/- THE SECOND FORM. 'bulk': how many values and letters a reading holds, each counted each time it is reached (what is shared counts as often as it is met; a slice's spare places count too). A statement '..UptoSaid' is the law's where the arguments, and the package variables that the reading takes, are together of bulk at most 1048576: NARROWER than '..Said'. Prove '..Said' where nothing that the law and all that it calls make is longer than what came in: it says more and counts as full. Else prove '..UptoSaid'. A law counts once. -/
mutual
def uptoBulk {H : Type} : DataW H → Nat
  | .lit (.string bytes) => bytes.length + 1
  | .lit _ => 1
  | .nil => 1
  | .ptr d => uptoBulk d + 1
  | .slice elems spare => uptoBulkAll elems + uptoBulkAll spare + 1
  | .agg parts => uptoBulkAll parts + 1
  | .iface _ d => uptoBulk d + 1
  | .map entries => uptoBulkEntries entries + 1
  | .held _ => 1
def uptoBulkAll {H : Type} : List (DataW H) → Nat
  | [] => 0
  | d :: r => uptoBulk d + uptoBulkAll r
def uptoBulkEntries {H : Type} : List (Lit × DataW H) → Nat
  | [] => 0
  | x :: r => uptoBulkEntry x + uptoBulkEntries r
def uptoBulkEntry {H : Type} : Lit × DataW H → Nat
  | (.string bytes, d) => bytes.length + uptoBulk d + 1
  | (_, d) => uptoBulk d + 1
 end
def uptoSmall : (H : Type) → List (DataW H) → Bool := fun _ ds => decide (uptoBulkAll ds ≤ 1048576)
def OpenSpec.upto (s : _root_.Go.ChangeSpec) : _root_.Go.OpenSpec := { _root_.Go.OpenSpec.ofChange s with cond := some uptoSmall }

/-- 'crosswaylaw06.FourLays', WHERE WHAT IT READS IS OF BULK AT MOST 1048576: true; the input reads as it did. -/
def fourLaysUptoRow : OpenClaim := { program := "ytedampcicmaamaa", sum := "49b374bd176b44c44b3748513405640fb9a63130108dccd2b39f3925ce54849b", func := "crossway/crosswaylaw06.FourLays", spec := "fourLays", unfollowed := true, recurses := true, apart := false, narrowed := true }
def FourLaysUptoSaid : Prop := fourLaysUptoRow.holds Try.pinned (OpenSpec.upto fourLaysSpec)

/-- 'crosswaylaw06.FourTakes', WHERE WHAT IT READS IS OF BULK AT MOST 1048576: true; the input reads as it did. -/
def fourTakesUptoRow : OpenClaim := { program := "ytedampcicmaamaa", sum := "49b374bd176b44c44b3748513405640fb9a63130108dccd2b39f3925ce54849b", func := "crossway/crosswaylaw06.FourTakes", spec := "fourTakes", unfollowed := true, recurses := true, apart := false, narrowed := true }
def FourTakesUptoSaid : Prop := fourTakesUptoRow.holds Try.pinned (OpenSpec.upto fourTakesSpec)

/-- 'crosswaylaw06.FourOptions', WHERE WHAT IT READS IS OF BULK AT MOST 1048576: true; the input reads as it did. -/
def fourOptionsUptoRow : OpenClaim := { program := "ytedampcicmaamaa", sum := "49b374bd176b44c44b3748513405640fb9a63130108dccd2b39f3925ce54849b", func := "crossway/crosswaylaw06.FourOptions", spec := "fourOptions", unfollowed := true, recurses := true, apart := false, narrowed := true }
def FourOptionsUptoSaid : Prop := fourOptionsUptoRow.holds Try.pinned (OpenSpec.upto fourOptionsSpec)

/-- 'crosswaylaw06.FourBack', WHERE WHAT IT READS IS OF BULK AT MOST 1048576: true; the input reads as it did. -/
def fourBackUptoRow : OpenClaim := { program := "ytedampcicmaamaa", sum := "49b374bd176b44c44b3748513405640fb9a63130108dccd2b39f3925ce54849b", func := "crossway/crosswaylaw06.FourBack", spec := "fourBack", unfollowed := true, recurses := true, apart := false, narrowed := true }
def FourBackUptoSaid : Prop := fourBackUptoRow.holds Try.pinned (OpenSpec.upto fourBackSpec)

/-- 'crosswaylaw06.FourHops', WHERE WHAT IT READS IS OF BULK AT MOST 1048576: true; the input reads as it did. -/
def fourHopsUptoRow : OpenClaim := { program := "ytedampcicmaamaa", sum := "49b374bd176b44c44b3748513405640fb9a63130108dccd2b39f3925ce54849b", func := "crossway/crosswaylaw06.FourHops", spec := "fourHops", unfollowed := true, recurses := true, apart := false, narrowed := true }
def FourHopsUptoSaid : Prop := fourHopsUptoRow.holds Try.pinned (OpenSpec.upto fourHopsSpec)

end Rows
end Go.Proofs.Ytedampcicmaamaa
