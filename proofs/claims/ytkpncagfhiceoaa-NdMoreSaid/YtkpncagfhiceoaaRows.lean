/-
  No cell of these rows narrows 'for every input' (looked for: loops, veiled, ifaces, maps, wideKeys, modest, calm, conditions, laid).
  DERIVED. THE GIVEN ROWS OF THIS SEAT. 5 by the template 'for every input the law returns true; each argument reads behind the call as it read before'; 0 by the template 'total and deterministic' (their statements: YtkpncagfhiceoaaTotals.lean).
  GIVEN WITH THE SEED: the statements are not yours to turn. If you find one false, say at which input.
  Laid BY PROGRAM, IN A SANDBOX (cutbox-rows.mjs): the forced cells as the released guide's own fill.sh prints them over the translation 578e999e4d385048… (all of the seat's roots in one cut). By AI agents, Wed Nov 11 2026. No macro, syntax, notation, axiom, sorry.
-/
import Derived.Test.YtkpncagfhiceoaaChecked
import GoSem.Claim
import GoSem.ClaimJoined
import GoSem.ClaimMapViews
import Derived.JoinedTies
import Derived.KernelRfl
namespace Go.Proofs.Ytkpncagfhiceoaa
/- THE CELL 'sum', in the pinned program and in every row, IS THE sha256 OF THE DUMP (.gsa) THAT YtkpncagfhiceoaaProg.lean LOADS. Nothing in Lean hashes anything: it is a label: what it is worth is what the hold of that sum in a sandbox is worth. -/
noncomputable def Try.pinned : Pinned := { name := "ytkpncagfhiceoaa", sum := "578e999e4d38504852ffa68587258629fafd64c0d4dcc28f2a4fb53b4d9a4060", checked := Try.checked }
namespace Rows
def none {H : Type} : Left H := { results := [], args := [] }

/-- 'crosswaylaw09.NdLays': WHATEVER THE INPUT: true; the input reads as it did. -/
def ndLaysSpec : ChangeSpec := { name := "ndLays", fn := fun _ => fun
  | [d1, d2] => { results := [.lit (.bool true)], args := [d1, d2] }
  | _ => none }
def ndLaysRow : OpenClaim := { program := "ytkpncagfhiceoaa", sum := "578e999e4d38504852ffa68587258629fafd64c0d4dcc28f2a4fb53b4d9a4060", func := "crossway/crosswaylaw09.NdLays", spec := "ndLays", unfollowed := true, recurses := true, apart := false }
def NdLaysSaid : Prop := ndLaysRow.holds Try.pinned (OpenSpec.ofChange ndLaysSpec)

/-- ITS FALSE NEIGHBOUR: 'it returns false'. Refute it at one input. -/
def ndLaysWrong : ChangeSpec := { name := "ndLays", fn := fun _ => fun
  | [d1, d2] => { results := [.lit (.bool false)], args := [d1, d2] }
  | _ => none }
def NdLaysWrongFalsely : Prop := ndLaysRow.holds Try.pinned (OpenSpec.ofChange ndLaysWrong)

/-- 'crosswaylaw09.NdOptions': WHATEVER THE INPUT: true; the input reads as it did. -/
def ndOptionsSpec : ChangeSpec := { name := "ndOptions", fn := fun _ => fun
  | [d] => { results := [.lit (.bool true)], args := [d] }
  | _ => none }
def ndOptionsRow : OpenClaim := { program := "ytkpncagfhiceoaa", sum := "578e999e4d38504852ffa68587258629fafd64c0d4dcc28f2a4fb53b4d9a4060", func := "crossway/crosswaylaw09.NdOptions", spec := "ndOptions", unfollowed := true, recurses := true, apart := false }
def NdOptionsSaid : Prop := ndOptionsRow.holds Try.pinned (OpenSpec.ofChange ndOptionsSpec)

/-- ITS FALSE NEIGHBOUR: 'it returns false'. Refute it at one input. -/
def ndOptionsWrong : ChangeSpec := { name := "ndOptions", fn := fun _ => fun
  | [d] => { results := [.lit (.bool false)], args := [d] }
  | _ => none }
def NdOptionsWrongFalsely : Prop := ndOptionsRow.holds Try.pinned (OpenSpec.ofChange ndOptionsWrong)

/-- 'crosswaylaw09.NdBack': WHATEVER THE INPUT: true; the input reads as it did. -/
def ndBackSpec : ChangeSpec := { name := "ndBack", fn := fun _ => fun
  | [d1, d2] => { results := [.lit (.bool true)], args := [d1, d2] }
  | _ => none }
def ndBackRow : OpenClaim := { program := "ytkpncagfhiceoaa", sum := "578e999e4d38504852ffa68587258629fafd64c0d4dcc28f2a4fb53b4d9a4060", func := "crossway/crosswaylaw09.NdBack", spec := "ndBack", unfollowed := true, recurses := true, apart := false }
def NdBackSaid : Prop := ndBackRow.holds Try.pinned (OpenSpec.ofChange ndBackSpec)

/-- ITS FALSE NEIGHBOUR: 'it returns false'. Refute it at one input. -/
def ndBackWrong : ChangeSpec := { name := "ndBack", fn := fun _ => fun
  | [d1, d2] => { results := [.lit (.bool false)], args := [d1, d2] }
  | _ => none }
def NdBackWrongFalsely : Prop := ndBackRow.holds Try.pinned (OpenSpec.ofChange ndBackWrong)

/-- 'crosswaylaw09.NdMore': WHATEVER THE INPUT: true; the input reads as it did. -/
def ndMoreSpec : ChangeSpec := { name := "ndMore", fn := fun _ => fun
  | [d1, d2, d3] => { results := [.lit (.bool true)], args := [d1, d2, d3] }
  | _ => none }
def ndMoreRow : OpenClaim := { program := "ytkpncagfhiceoaa", sum := "578e999e4d38504852ffa68587258629fafd64c0d4dcc28f2a4fb53b4d9a4060", func := "crossway/crosswaylaw09.NdMore", spec := "ndMore", unfollowed := true, recurses := true, apart := false }
def NdMoreSaid : Prop := ndMoreRow.holds Try.pinned (OpenSpec.ofChange ndMoreSpec)

/-- ITS FALSE NEIGHBOUR: 'it returns false'. Refute it at one input. -/
def ndMoreWrong : ChangeSpec := { name := "ndMore", fn := fun _ => fun
  | [d1, d2, d3] => { results := [.lit (.bool false)], args := [d1, d2, d3] }
  | _ => none }
def NdMoreWrongFalsely : Prop := ndMoreRow.holds Try.pinned (OpenSpec.ofChange ndMoreWrong)

/-- 'crosswaylaw09.NdRow': WHATEVER THE INPUT: true; the input reads as it did. -/
def ndRowSpec : ChangeSpec := { name := "ndRow", fn := fun _ => fun
  | [d1, d2, d3] => { results := [.lit (.bool true)], args := [d1, d2, d3] }
  | _ => none }
def ndRowRow : OpenClaim := { program := "ytkpncagfhiceoaa", sum := "578e999e4d38504852ffa68587258629fafd64c0d4dcc28f2a4fb53b4d9a4060", func := "crossway/crosswaylaw09.NdRow", spec := "ndRow", unfollowed := true, recurses := true, apart := false }
def NdRowSaid : Prop := ndRowRow.holds Try.pinned (OpenSpec.ofChange ndRowSpec)

/-- ITS FALSE NEIGHBOUR: 'it returns false'. Refute it at one input. -/
def ndRowWrong : ChangeSpec := { name := "ndRow", fn := fun _ => fun
  | [d1, d2, d3] => { results := [.lit (.bool false)], args := [d1, d2, d3] }
  | _ => none }
def NdRowWrongFalsely : Prop := ndRowRow.holds Try.pinned (OpenSpec.ofChange ndRowWrong)

/- THE SECOND FORM. 'bulk': how many values and letters a reading holds, each counted each time it is reached (what is shared counts as often as it is met; a slice's spare places count too). A statement '..UptoSaid' is the law's where the arguments, and the package variables that the reading takes, are together of bulk at most 1048576: NARROWER than '..Said'. Prove '..Said' where nothing that the law and all that it calls make is longer than what came in: it says more and counts as full. Else prove '..UptoSaid'. A law counts once. -/
mutual
def uptoBulk {H : Type} : DataW H → Nat
  | .lit (.string bytes) => bytes.length + 1
  | .lit _ => 1
  | .nil => 1
  | .ptr d => uptoBulk d + 1
  | .slice elems spare => uptoBulkAll elems + uptoBulkAll spare + 1
  | .agg parts => uptoBulkAll parts + 1
  | .iface _ d => uptoBulk d + 1
  | .map entries => uptoBulkEntries entries + 1
  | .held _ => 1
def uptoBulkAll {H : Type} : List (DataW H) → Nat
  | [] => 0
  | d :: r => uptoBulk d + uptoBulkAll r
def uptoBulkEntries {H : Type} : List (Lit × DataW H) → Nat
  | [] => 0
  | x :: r => uptoBulkEntry x + uptoBulkEntries r
def uptoBulkEntry {H : Type} : Lit × DataW H → Nat
  | (.string bytes, d) => bytes.length + uptoBulk d + 1
  | (_, d) => uptoBulk d + 1
 end
def uptoSmall : (H : Type) → List (DataW H) → Bool := fun _ ds => decide (uptoBulkAll ds ≤ 1048576)
def OpenSpec.upto (s : _root_.Go.ChangeSpec) : _root_.Go.OpenSpec := { _root_.Go.OpenSpec.ofChange s with cond := some uptoSmall }

/-- 'crosswaylaw09.NdLays', WHERE WHAT IT READS IS OF BULK AT MOST 1048576: true; the input reads as it did. -/
def ndLaysUptoRow : OpenClaim := { program := "ytkpncagfhiceoaa", sum := "578e999e4d38504852ffa68587258629fafd64c0d4dcc28f2a4fb53b4d9a4060", func := "crossway/crosswaylaw09.NdLays", spec := "ndLays", unfollowed := true, recurses := true, apart := false, narrowed := true }
def NdLaysUptoSaid : Prop := ndLaysUptoRow.holds Try.pinned (OpenSpec.upto ndLaysSpec)

/-- 'crosswaylaw09.NdOptions', WHERE WHAT IT READS IS OF BULK AT MOST 1048576: true; the input reads as it did. -/
def ndOptionsUptoRow : OpenClaim := { program := "ytkpncagfhiceoaa", sum := "578e999e4d38504852ffa68587258629fafd64c0d4dcc28f2a4fb53b4d9a4060", func := "crossway/crosswaylaw09.NdOptions", spec := "ndOptions", unfollowed := true, recurses := true, apart := false, narrowed := true }
def NdOptionsUptoSaid : Prop := ndOptionsUptoRow.holds Try.pinned (OpenSpec.upto ndOptionsSpec)

/-- 'crosswaylaw09.NdBack', WHERE WHAT IT READS IS OF BULK AT MOST 1048576: true; the input reads as it did. -/
def ndBackUptoRow : OpenClaim := { program := "ytkpncagfhiceoaa", sum := "578e999e4d38504852ffa68587258629fafd64c0d4dcc28f2a4fb53b4d9a4060", func := "crossway/crosswaylaw09.NdBack", spec := "ndBack", unfollowed := true, recurses := true, apart := false, narrowed := true }
def NdBackUptoSaid : Prop := ndBackUptoRow.holds Try.pinned (OpenSpec.upto ndBackSpec)

/-- 'crosswaylaw09.NdMore', WHERE WHAT IT READS IS OF BULK AT MOST 1048576: true; the input reads as it did. -/
def ndMoreUptoRow : OpenClaim := { program := "ytkpncagfhiceoaa", sum := "578e999e4d38504852ffa68587258629fafd64c0d4dcc28f2a4fb53b4d9a4060", func := "crossway/crosswaylaw09.NdMore", spec := "ndMore", unfollowed := true, recurses := true, apart := false, narrowed := true }
def NdMoreUptoSaid : Prop := ndMoreUptoRow.holds Try.pinned (OpenSpec.upto ndMoreSpec)

/-- 'crosswaylaw09.NdRow', WHERE WHAT IT READS IS OF BULK AT MOST 1048576: true; the input reads as it did. -/
def ndRowUptoRow : OpenClaim := { program := "ytkpncagfhiceoaa", sum := "578e999e4d38504852ffa68587258629fafd64c0d4dcc28f2a4fb53b4d9a4060", func := "crossway/crosswaylaw09.NdRow", spec := "ndRow", unfollowed := true, recurses := true, apart := false, narrowed := true }
def NdRowUptoSaid : Prop := ndRowUptoRow.holds Try.pinned (OpenSpec.upto ndRowSpec)

end Rows
end Go.Proofs.Ytkpncagfhiceoaa
