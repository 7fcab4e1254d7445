/-
  No cell of these rows narrows 'for every input' (looked for: loops, veiled, ifaces, maps, wideKeys, modest, calm, conditions, laid).
  DERIVED. THE GIVEN ROWS OF THIS SEAT. 5 by the template 'for every input the law returns true; each argument reads behind the call as it read before'; 0 by the template 'total and deterministic' (their statements: YtefbcigccfkkgaaTotals.lean).
  GIVEN WITH THE SEED: the statements are not yours to turn. If you find one false, say at which input.
  Laid BY PROGRAM, IN A SANDBOX (cutbox-rows.mjs): the forced cells as the released guide's own fill.sh prints them over the translation d18194750e16007d… (all of the seat's roots in one cut). By AI agents, Wed Nov 11 2026. No macro, syntax, notation, axiom, sorry.
-/
import Derived.Test.YtefbcigccfkkgaaChecked
import GoSem.Claim
import GoSem.ClaimJoined
import GoSem.ClaimMapViews
import Derived.JoinedTies
import Derived.KernelRfl
namespace Go.Proofs.Ytefbcigccfkkgaa
/- THE CELL 'sum', in the pinned program and in every row, IS THE sha256 OF THE DUMP (.gsa) THAT YtefbcigccfkkgaaProg.lean LOADS. Nothing in Lean hashes anything: it is a label: what it is worth is what the hold of that sum in a sandbox is worth. -/
noncomputable def Try.pinned : Pinned := { name := "ytefbcigccfkkgaa", sum := "d18194750e16007d67f6400b139ca2ffed06b2af5346b51962c9258f9c68830d", checked := Try.checked }
namespace Rows
def none {H : Type} : Left H := { results := [], args := [] }

/-- 'crosswaylaw14.IfaceSpeaks': WHATEVER THE INPUT: true; the input reads as it did. -/
def ifaceSpeaksSpec : ChangeSpec := { name := "ifaceSpeaks", fn := fun _ => fun
  | [d1, d2] => { results := [.lit (.bool true)], args := [d1, d2] }
  | _ => none }
def ifaceSpeaksRow : OpenClaim := { program := "ytefbcigccfkkgaa", sum := "d18194750e16007d67f6400b139ca2ffed06b2af5346b51962c9258f9c68830d", func := "crossway/crosswaylaw14.IfaceSpeaks", spec := "ifaceSpeaks", unfollowed := true, recurses := true, apart := false }
def IfaceSpeaksSaid : Prop := ifaceSpeaksRow.holds Try.pinned (OpenSpec.ofChange ifaceSpeaksSpec)

/-- ITS FALSE NEIGHBOUR: 'it returns false'. Refute it at one input. -/
def ifaceSpeaksWrong : ChangeSpec := { name := "ifaceSpeaks", fn := fun _ => fun
  | [d1, d2] => { results := [.lit (.bool false)], args := [d1, d2] }
  | _ => none }
def IfaceSpeaksWrongFalsely : Prop := ifaceSpeaksRow.holds Try.pinned (OpenSpec.ofChange ifaceSpeaksWrong)

/-- 'crosswaylaw14.IfacePlays': WHATEVER THE INPUT: true; the input reads as it did. -/
def ifacePlaysSpec : ChangeSpec := { name := "ifacePlays", fn := fun _ => fun
  | [d] => { results := [.lit (.bool true)], args := [d] }
  | _ => none }
def ifacePlaysRow : OpenClaim := { program := "ytefbcigccfkkgaa", sum := "d18194750e16007d67f6400b139ca2ffed06b2af5346b51962c9258f9c68830d", func := "crossway/crosswaylaw14.IfacePlays", spec := "ifacePlays", unfollowed := true, recurses := true, apart := false }
def IfacePlaysSaid : Prop := ifacePlaysRow.holds Try.pinned (OpenSpec.ofChange ifacePlaysSpec)

/-- ITS FALSE NEIGHBOUR: 'it returns false'. Refute it at one input. -/
def ifacePlaysWrong : ChangeSpec := { name := "ifacePlays", fn := fun _ => fun
  | [d] => { results := [.lit (.bool false)], args := [d] }
  | _ => none }
def IfacePlaysWrongFalsely : Prop := ifacePlaysRow.holds Try.pinned (OpenSpec.ofChange ifacePlaysWrong)

/-- 'crosswaylaw14.IfaceOne': WHATEVER THE INPUT: true; the input reads as it did. -/
def ifaceOneSpec : ChangeSpec := { name := "ifaceOne", fn := fun _ => fun
  | [d] => { results := [.lit (.bool true)], args := [d] }
  | _ => none }
def ifaceOneRow : OpenClaim := { program := "ytefbcigccfkkgaa", sum := "d18194750e16007d67f6400b139ca2ffed06b2af5346b51962c9258f9c68830d", func := "crossway/crosswaylaw14.IfaceOne", spec := "ifaceOne", unfollowed := true, recurses := true, apart := false }
def IfaceOneSaid : Prop := ifaceOneRow.holds Try.pinned (OpenSpec.ofChange ifaceOneSpec)

/-- ITS FALSE NEIGHBOUR: 'it returns false'. Refute it at one input. -/
def ifaceOneWrong : ChangeSpec := { name := "ifaceOne", fn := fun _ => fun
  | [d] => { results := [.lit (.bool false)], args := [d] }
  | _ => none }
def IfaceOneWrongFalsely : Prop := ifaceOneRow.holds Try.pinned (OpenSpec.ofChange ifaceOneWrong)

/-- 'crosswaylaw14.IfaceNear': WHATEVER THE INPUT: true; the input reads as it did. -/
def ifaceNearSpec : ChangeSpec := { name := "ifaceNear", fn := fun _ => fun
  | [d1, d2] => { results := [.lit (.bool true)], args := [d1, d2] }
  | _ => none }
def ifaceNearRow : OpenClaim := { program := "ytefbcigccfkkgaa", sum := "d18194750e16007d67f6400b139ca2ffed06b2af5346b51962c9258f9c68830d", func := "crossway/crosswaylaw14.IfaceNear", spec := "ifaceNear", unfollowed := true, recurses := true, apart := false }
def IfaceNearSaid : Prop := ifaceNearRow.holds Try.pinned (OpenSpec.ofChange ifaceNearSpec)

/-- ITS FALSE NEIGHBOUR: 'it returns false'. Refute it at one input. -/
def ifaceNearWrong : ChangeSpec := { name := "ifaceNear", fn := fun _ => fun
  | [d1, d2] => { results := [.lit (.bool false)], args := [d1, d2] }
  | _ => none }
def IfaceNearWrongFalsely : Prop := ifaceNearRow.holds Try.pinned (OpenSpec.ofChange ifaceNearWrong)

/-- 'crosswaylaw14.IfaceCopies': WHATEVER THE INPUT: true; the input reads as it did. -/
def ifaceCopiesSpec : ChangeSpec := { name := "ifaceCopies", fn := fun _ => fun
  | [d1, d2, d3] => { results := [.lit (.bool true)], args := [d1, d2, d3] }
  | _ => none }
def ifaceCopiesRow : OpenClaim := { program := "ytefbcigccfkkgaa", sum := "d18194750e16007d67f6400b139ca2ffed06b2af5346b51962c9258f9c68830d", func := "crossway/crosswaylaw14.IfaceCopies", spec := "ifaceCopies", inPlace := ["maps.clone"], unfollowed := true, recurses := true, apart := false }
def IfaceCopiesSaid : Prop := ifaceCopiesRow.holds Try.pinned (OpenSpec.ofChange ifaceCopiesSpec)

/-- ITS FALSE NEIGHBOUR: 'it returns false'. Refute it at one input. -/
def ifaceCopiesWrong : ChangeSpec := { name := "ifaceCopies", fn := fun _ => fun
  | [d1, d2, d3] => { results := [.lit (.bool false)], args := [d1, d2, d3] }
  | _ => none }
def IfaceCopiesWrongFalsely : Prop := ifaceCopiesRow.holds Try.pinned (OpenSpec.ofChange ifaceCopiesWrong)

/- THE SECOND FORM. 'bulk': how many values and letters a reading holds, each counted each time it is reached (what is shared counts as often as it is met; a slice's spare places count too). A statement '..UptoSaid' is the law's where the arguments, and the package variables that the reading takes, are together of bulk at most 1048576: NARROWER than '..Said'. Prove '..Said' where nothing that the law and all that it calls make is longer than what came in: it says more and counts as full. Else prove '..UptoSaid'. A law counts once. -/
mutual
def uptoBulk {H : Type} : DataW H → Nat
  | .lit (.string bytes) => bytes.length + 1
  | .lit _ => 1
  | .nil => 1
  | .ptr d => uptoBulk d + 1
  | .slice elems spare => uptoBulkAll elems + uptoBulkAll spare + 1
  | .agg parts => uptoBulkAll parts + 1
  | .iface _ d => uptoBulk d + 1
  | .map entries => uptoBulkEntries entries + 1
  | .held _ => 1
def uptoBulkAll {H : Type} : List (DataW H) → Nat
  | [] => 0
  | d :: r => uptoBulk d + uptoBulkAll r
def uptoBulkEntries {H : Type} : List (Lit × DataW H) → Nat
  | [] => 0
  | x :: r => uptoBulkEntry x + uptoBulkEntries r
def uptoBulkEntry {H : Type} : Lit × DataW H → Nat
  | (.string bytes, d) => bytes.length + uptoBulk d + 1
  | (_, d) => uptoBulk d + 1
 end
def uptoSmall : (H : Type) → List (DataW H) → Bool := fun _ ds => decide (uptoBulkAll ds ≤ 1048576)
def OpenSpec.upto (s : _root_.Go.ChangeSpec) : _root_.Go.OpenSpec := { _root_.Go.OpenSpec.ofChange s with cond := some uptoSmall }

/-- 'crosswaylaw14.IfaceSpeaks', WHERE WHAT IT READS IS OF BULK AT MOST 1048576: true; the input reads as it did. -/
def ifaceSpeaksUptoRow : OpenClaim := { program := "ytefbcigccfkkgaa", sum := "d18194750e16007d67f6400b139ca2ffed06b2af5346b51962c9258f9c68830d", func := "crossway/crosswaylaw14.IfaceSpeaks", spec := "ifaceSpeaks", unfollowed := true, recurses := true, apart := false, narrowed := true }
def IfaceSpeaksUptoSaid : Prop := ifaceSpeaksUptoRow.holds Try.pinned (OpenSpec.upto ifaceSpeaksSpec)

/-- 'crosswaylaw14.IfacePlays', WHERE WHAT IT READS IS OF BULK AT MOST 1048576: true; the input reads as it did. -/
def ifacePlaysUptoRow : OpenClaim := { program := "ytefbcigccfkkgaa", sum := "d18194750e16007d67f6400b139ca2ffed06b2af5346b51962c9258f9c68830d", func := "crossway/crosswaylaw14.IfacePlays", spec := "ifacePlays", unfollowed := true, recurses := true, apart := false, narrowed := true }
def IfacePlaysUptoSaid : Prop := ifacePlaysUptoRow.holds Try.pinned (OpenSpec.upto ifacePlaysSpec)

/-- 'crosswaylaw14.IfaceOne', WHERE WHAT IT READS IS OF BULK AT MOST 1048576: true; the input reads as it did. -/
def ifaceOneUptoRow : OpenClaim := { program := "ytefbcigccfkkgaa", sum := "d18194750e16007d67f6400b139ca2ffed06b2af5346b51962c9258f9c68830d", func := "crossway/crosswaylaw14.IfaceOne", spec := "ifaceOne", unfollowed := true, recurses := true, apart := false, narrowed := true }
def IfaceOneUptoSaid : Prop := ifaceOneUptoRow.holds Try.pinned (OpenSpec.upto ifaceOneSpec)

/-- 'crosswaylaw14.IfaceNear', WHERE WHAT IT READS IS OF BULK AT MOST 1048576: true; the input reads as it did. -/
def ifaceNearUptoRow : OpenClaim := { program := "ytefbcigccfkkgaa", sum := "d18194750e16007d67f6400b139ca2ffed06b2af5346b51962c9258f9c68830d", func := "crossway/crosswaylaw14.IfaceNear", spec := "ifaceNear", unfollowed := true, recurses := true, apart := false, narrowed := true }
def IfaceNearUptoSaid : Prop := ifaceNearUptoRow.holds Try.pinned (OpenSpec.upto ifaceNearSpec)

/-- 'crosswaylaw14.IfaceCopies', WHERE WHAT IT READS IS OF BULK AT MOST 1048576: true; the input reads as it did. -/
def ifaceCopiesUptoRow : OpenClaim := { program := "ytefbcigccfkkgaa", sum := "d18194750e16007d67f6400b139ca2ffed06b2af5346b51962c9258f9c68830d", func := "crossway/crosswaylaw14.IfaceCopies", spec := "ifaceCopies", inPlace := ["maps.clone"], unfollowed := true, recurses := true, apart := false, narrowed := true }
def IfaceCopiesUptoSaid : Prop := ifaceCopiesUptoRow.holds Try.pinned (OpenSpec.upto ifaceCopiesSpec)

end Rows
end Go.Proofs.Ytefbcigccfkkgaa
