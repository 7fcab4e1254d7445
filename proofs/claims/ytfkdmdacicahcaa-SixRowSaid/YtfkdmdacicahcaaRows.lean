/-
  No cell of these rows narrows 'for every input' (looked for: loops, veiled, ifaces, maps, wideKeys, modest, calm, conditions, laid).
  DERIVED. THE GIVEN ROWS OF THIS SEAT. 6 by the template 'for every input the law returns true; each argument reads behind the call as it read before'; 0 by the template 'total and deterministic' (their statements: YtfkdmdacicahcaaTotals.lean).
  GIVEN WITH THE SEED: the statements are not yours to turn. If you find one false, say at which input.
  Laid BY PROGRAM, IN A SANDBOX (cutbox-rows.mjs): the forced cells as the released guide's own fill.sh prints them over the translation 71acb51735cf08f9… (all of the seat's roots in one cut). By AI agents, Wed Nov 11 2026. No macro, syntax, notation, axiom, sorry.
-/
import Derived.Test.YtfkdmdacicahcaaChecked
import GoSem.Claim
import GoSem.ClaimJoined
import GoSem.ClaimMapViews
import Derived.JoinedTies
import Derived.KernelRfl
namespace Go.Proofs.Ytfkdmdacicahcaa
/- THE CELL 'sum', in the pinned program and in every row, IS THE sha256 OF THE DUMP (.gsa) THAT YtfkdmdacicahcaaProg.lean LOADS. Nothing in Lean hashes anything: it is a label: what it is worth is what the hold of that sum in a sandbox is worth. -/
noncomputable def Try.pinned : Pinned := { name := "ytfkdmdacicahcaa", sum := "71acb51735cf08f9183f371888f2f8f7901e3e077e46b52de166ac3c891b9473", checked := Try.checked }
namespace Rows
def none {H : Type} : Left H := { results := [], args := [] }

/-- 'crosswaylaw07.SixLays': WHATEVER THE INPUT: true; the input reads as it did. -/
def sixLaysSpec : ChangeSpec := { name := "sixLays", fn := fun _ => fun
  | [d] => { results := [.lit (.bool true)], args := [d] }
  | _ => none }
def sixLaysRow : OpenClaim := { program := "ytfkdmdacicahcaa", sum := "71acb51735cf08f9183f371888f2f8f7901e3e077e46b52de166ac3c891b9473", func := "crossway/crosswaylaw07.SixLays", spec := "sixLays", apart := false }
def SixLaysSaid : Prop := sixLaysRow.holds Try.pinned (OpenSpec.ofChange sixLaysSpec)

/-- ITS FALSE NEIGHBOUR: 'it returns false'. Refute it at one input. -/
def sixLaysWrong : ChangeSpec := { name := "sixLays", fn := fun _ => fun
  | [d] => { results := [.lit (.bool false)], args := [d] }
  | _ => none }
def SixLaysWrongFalsely : Prop := sixLaysRow.holds Try.pinned (OpenSpec.ofChange sixLaysWrong)

/-- 'crosswaylaw07.SixTakes': WHATEVER THE INPUT: true; the input reads as it did. -/
def sixTakesSpec : ChangeSpec := { name := "sixTakes", fn := fun _ => fun
  | [d] => { results := [.lit (.bool true)], args := [d] }
  | _ => none }
def sixTakesRow : OpenClaim := { program := "ytfkdmdacicahcaa", sum := "71acb51735cf08f9183f371888f2f8f7901e3e077e46b52de166ac3c891b9473", func := "crossway/crosswaylaw07.SixTakes", spec := "sixTakes", apart := false }
def SixTakesSaid : Prop := sixTakesRow.holds Try.pinned (OpenSpec.ofChange sixTakesSpec)

/-- ITS FALSE NEIGHBOUR: 'it returns false'. Refute it at one input. -/
def sixTakesWrong : ChangeSpec := { name := "sixTakes", fn := fun _ => fun
  | [d] => { results := [.lit (.bool false)], args := [d] }
  | _ => none }
def SixTakesWrongFalsely : Prop := sixTakesRow.holds Try.pinned (OpenSpec.ofChange sixTakesWrong)

/-- 'crosswaylaw07.SixChains': WHATEVER THE INPUT: true; the input reads as it did. -/
def sixChainsSpec : ChangeSpec := { name := "sixChains", fn := fun _ => fun
  | [d1, d2] => { results := [.lit (.bool true)], args := [d1, d2] }
  | _ => none }
def sixChainsRow : OpenClaim := { program := "ytfkdmdacicahcaa", sum := "71acb51735cf08f9183f371888f2f8f7901e3e077e46b52de166ac3c891b9473", func := "crossway/crosswaylaw07.SixChains", spec := "sixChains", apart := false }
def SixChainsSaid : Prop := sixChainsRow.holds Try.pinned (OpenSpec.ofChange sixChainsSpec)

/-- ITS FALSE NEIGHBOUR: 'it returns false'. Refute it at one input. -/
def sixChainsWrong : ChangeSpec := { name := "sixChains", fn := fun _ => fun
  | [d1, d2] => { results := [.lit (.bool false)], args := [d1, d2] }
  | _ => none }
def SixChainsWrongFalsely : Prop := sixChainsRow.holds Try.pinned (OpenSpec.ofChange sixChainsWrong)

/-- 'crosswaylaw07.SixBack': WHATEVER THE INPUT: true; the input reads as it did. -/
def sixBackSpec : ChangeSpec := { name := "sixBack", fn := fun _ => fun
  | [d1, d2, d3] => { results := [.lit (.bool true)], args := [d1, d2, d3] }
  | _ => none }
def sixBackRow : OpenClaim := { program := "ytfkdmdacicahcaa", sum := "71acb51735cf08f9183f371888f2f8f7901e3e077e46b52de166ac3c891b9473", func := "crossway/crosswaylaw07.SixBack", spec := "sixBack", apart := false }
def SixBackSaid : Prop := sixBackRow.holds Try.pinned (OpenSpec.ofChange sixBackSpec)

/-- ITS FALSE NEIGHBOUR: 'it returns false'. Refute it at one input. -/
def sixBackWrong : ChangeSpec := { name := "sixBack", fn := fun _ => fun
  | [d1, d2, d3] => { results := [.lit (.bool false)], args := [d1, d2, d3] }
  | _ => none }
def SixBackWrongFalsely : Prop := sixBackRow.holds Try.pinned (OpenSpec.ofChange sixBackWrong)

/-- 'crosswaylaw07.SixAgain': WHATEVER THE INPUT: true; the input reads as it did. -/
def sixAgainSpec : ChangeSpec := { name := "sixAgain", fn := fun _ => fun
  | [d] => { results := [.lit (.bool true)], args := [d] }
  | _ => none }
def sixAgainRow : OpenClaim := { program := "ytfkdmdacicahcaa", sum := "71acb51735cf08f9183f371888f2f8f7901e3e077e46b52de166ac3c891b9473", func := "crossway/crosswaylaw07.SixAgain", spec := "sixAgain", apart := false }
def SixAgainSaid : Prop := sixAgainRow.holds Try.pinned (OpenSpec.ofChange sixAgainSpec)

/-- ITS FALSE NEIGHBOUR: 'it returns false'. Refute it at one input. -/
def sixAgainWrong : ChangeSpec := { name := "sixAgain", fn := fun _ => fun
  | [d] => { results := [.lit (.bool false)], args := [d] }
  | _ => none }
def SixAgainWrongFalsely : Prop := sixAgainRow.holds Try.pinned (OpenSpec.ofChange sixAgainWrong)

/-- 'crosswaylaw07.SixRow': WHATEVER THE INPUT: true; the input reads as it did. -/
def sixRowSpec : ChangeSpec := { name := "sixRow", fn := fun _ => fun
  | [d1, d2, d3] => { results := [.lit (.bool true)], args := [d1, d2, d3] }
  | _ => none }
def sixRowRow : OpenClaim := { program := "ytfkdmdacicahcaa", sum := "71acb51735cf08f9183f371888f2f8f7901e3e077e46b52de166ac3c891b9473", func := "crossway/crosswaylaw07.SixRow", spec := "sixRow", apart := false }
def SixRowSaid : Prop := sixRowRow.holds Try.pinned (OpenSpec.ofChange sixRowSpec)

/-- ITS FALSE NEIGHBOUR: 'it returns false'. Refute it at one input. -/
def sixRowWrong : ChangeSpec := { name := "sixRow", fn := fun _ => fun
  | [d1, d2, d3] => { results := [.lit (.bool false)], args := [d1, d2, d3] }
  | _ => none }
def SixRowWrongFalsely : Prop := sixRowRow.holds Try.pinned (OpenSpec.ofChange sixRowWrong)

/- THE SECOND FORM. 'bulk': how many values and letters a reading holds, each counted each time it is reached (what is shared counts as often as it is met; a slice's spare places count too). A statement '..UptoSaid' is the law's where the arguments, and the package variables that the reading takes, are together of bulk at most 1048576: NARROWER than '..Said'. Prove '..Said' where nothing that the law and all that it calls make is longer than what came in: it says more and counts as full. Else prove '..UptoSaid'. A law counts once. -/
mutual
def uptoBulk {H : Type} : DataW H → Nat
  | .lit (.string bytes) => bytes.length + 1
  | .lit _ => 1
  | .nil => 1
  | .ptr d => uptoBulk d + 1
  | .slice elems spare => uptoBulkAll elems + uptoBulkAll spare + 1
  | .agg parts => uptoBulkAll parts + 1
  | .iface _ d => uptoBulk d + 1
  | .map entries => uptoBulkEntries entries + 1
  | .held _ => 1
def uptoBulkAll {H : Type} : List (DataW H) → Nat
  | [] => 0
  | d :: r => uptoBulk d + uptoBulkAll r
def uptoBulkEntries {H : Type} : List (Lit × DataW H) → Nat
  | [] => 0
  | x :: r => uptoBulkEntry x + uptoBulkEntries r
def uptoBulkEntry {H : Type} : Lit × DataW H → Nat
  | (.string bytes, d) => bytes.length + uptoBulk d + 1
  | (_, d) => uptoBulk d + 1
 end
def uptoSmall : (H : Type) → List (DataW H) → Bool := fun _ ds => decide (uptoBulkAll ds ≤ 1048576)
def OpenSpec.upto (s : _root_.Go.ChangeSpec) : _root_.Go.OpenSpec := { _root_.Go.OpenSpec.ofChange s with cond := some uptoSmall }

/-- 'crosswaylaw07.SixLays', WHERE WHAT IT READS IS OF BULK AT MOST 1048576: true; the input reads as it did. -/
def sixLaysUptoRow : OpenClaim := { program := "ytfkdmdacicahcaa", sum := "71acb51735cf08f9183f371888f2f8f7901e3e077e46b52de166ac3c891b9473", func := "crossway/crosswaylaw07.SixLays", spec := "sixLays", apart := false, narrowed := true }
def SixLaysUptoSaid : Prop := sixLaysUptoRow.holds Try.pinned (OpenSpec.upto sixLaysSpec)

/-- 'crosswaylaw07.SixTakes', WHERE WHAT IT READS IS OF BULK AT MOST 1048576: true; the input reads as it did. -/
def sixTakesUptoRow : OpenClaim := { program := "ytfkdmdacicahcaa", sum := "71acb51735cf08f9183f371888f2f8f7901e3e077e46b52de166ac3c891b9473", func := "crossway/crosswaylaw07.SixTakes", spec := "sixTakes", apart := false, narrowed := true }
def SixTakesUptoSaid : Prop := sixTakesUptoRow.holds Try.pinned (OpenSpec.upto sixTakesSpec)

/-- 'crosswaylaw07.SixChains', WHERE WHAT IT READS IS OF BULK AT MOST 1048576: true; the input reads as it did. -/
def sixChainsUptoRow : OpenClaim := { program := "ytfkdmdacicahcaa", sum := "71acb51735cf08f9183f371888f2f8f7901e3e077e46b52de166ac3c891b9473", func := "crossway/crosswaylaw07.SixChains", spec := "sixChains", apart := false, narrowed := true }
def SixChainsUptoSaid : Prop := sixChainsUptoRow.holds Try.pinned (OpenSpec.upto sixChainsSpec)

/-- 'crosswaylaw07.SixBack', WHERE WHAT IT READS IS OF BULK AT MOST 1048576: true; the input reads as it did. -/
def sixBackUptoRow : OpenClaim := { program := "ytfkdmdacicahcaa", sum := "71acb51735cf08f9183f371888f2f8f7901e3e077e46b52de166ac3c891b9473", func := "crossway/crosswaylaw07.SixBack", spec := "sixBack", apart := false, narrowed := true }
def SixBackUptoSaid : Prop := sixBackUptoRow.holds Try.pinned (OpenSpec.upto sixBackSpec)

/-- 'crosswaylaw07.SixAgain', WHERE WHAT IT READS IS OF BULK AT MOST 1048576: true; the input reads as it did. -/
def sixAgainUptoRow : OpenClaim := { program := "ytfkdmdacicahcaa", sum := "71acb51735cf08f9183f371888f2f8f7901e3e077e46b52de166ac3c891b9473", func := "crossway/crosswaylaw07.SixAgain", spec := "sixAgain", apart := false, narrowed := true }
def SixAgainUptoSaid : Prop := sixAgainUptoRow.holds Try.pinned (OpenSpec.upto sixAgainSpec)

/-- 'crosswaylaw07.SixRow', WHERE WHAT IT READS IS OF BULK AT MOST 1048576: true; the input reads as it did. -/
def sixRowUptoRow : OpenClaim := { program := "ytfkdmdacicahcaa", sum := "71acb51735cf08f9183f371888f2f8f7901e3e077e46b52de166ac3c891b9473", func := "crossway/crosswaylaw07.SixRow", spec := "sixRow", apart := false, narrowed := true }
def SixRowUptoSaid : Prop := sixRowUptoRow.holds Try.pinned (OpenSpec.upto sixRowSpec)

end Rows
end Go.Proofs.Ytfkdmdacicahcaa
