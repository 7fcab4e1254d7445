/- Functions of the program as Lean functions, each with a proof that a call comes to what it says. Conditions: those of each theorem. Laid by a program of this session. -/
import Derived.Test.YtmepodmcmpndoaaProg
import Derived.Below
import Derived.Deep.Draws
import Derived.Deep.AppendLies
import Derived.Maps.AppendAt
import Derived.OwnWalk
import Derived.Laws.BytesArg
import Derived.Laws.MakeOwn
import Derived.Laws.OwnMore
import Derived.Deep.OwnRows
import Derived.Tactics
import Derived.Lib.ConvBytes
import Derived.Laws.Slices
import Derived.WalkKit
import Derived.KernelRfl
import Derived.RowKit3
import Derived.Deep.LoopGhost
import Derived.Deep.QuietTactic
import Derived.BigQuiet
import Derived.WideLaws
import Derived.Deep.DeepCutAuto
import Derived.Deep.CutBlock
import Derived.Deep.RegionHeld3
import Derived.Laws.Rows
import Derived.Lib.AppendStr
import Derived.ArgAppend
import Derived.Laws.IdiomCopy
import Derived.OrdersHeld
import Derived.Laws.BitsLemmas
import Derived.RowKit
import Derived.Test.YtmepodmcmpndoaaMBe
import Derived.Test.YtmepodmcmpndoaaMCopy
import Derived.Test.YtmepodmcmpndoaaMReader
import Derived.Test.YtmepodmcmpndoaaMStr
import Derived.Test.YtmepodmcmpndoaaMBlk
import Derived.Handy
import Derived.Deep.RegionHeld3
import Derived.Outline
import Derived.StillTailTactics
import Derived.WalkMore
import Derived.Scope
import Derived.WalkSmall
import Derived.Test.YtmepodmcmpndoaaWWords
import Derived.Test.YtmepodmcmpndoaaWLast
import Derived.Test.YtmepodmcmpndoaaWTab
import Derived.Test.YtmepodmcmpndoaaWFour
import Derived.Test.YtmepodmcmpndoaaWQPut
import Derived.Test.YtmepodmcmpndoaaWApart
import Derived.Test.YtmepodmcmpndoaaWArr
import Derived.Test.YtmepodmcmpndoaaWZeros
import Derived.Test.YtmepodmcmpndoaaWFoot
import Derived.Test.YtmepodmcmpndoaaWKept
import Derived.Test.YtmepodmcmpndoaaWShare
import Derived.Test.YtmepodmcmpndoaaWN
import Derived.Test.YtmepodmcmpndoaaWFootNe
import Derived.Test.YtmepodmcmpndoaaWAt
import Derived.Test.YtmepodmcmpndoaaWEqStruct
import Derived.Test.YtmepodmcmpndoaaWRepsOne
import Derived.Test.YtmepodmcmpndoaaWInv
import Derived.Test.YtmepodmcmpndoaaWInvWords
import Derived.Test.YtmepodmcmpndoaaWGuard
import Derived.Test.YtmepodmcmpndoaaWNEv
import Derived.Test.YtmepodmcmpndoaaWMore
namespace Go.Proofs.Ytmepodmcmpndoaa.PBase
open Go.RowKit Go.Proofs.Ytmepodmcmpndoaa Go.Proofs.YtmepodmcmpndoaaW.PrintWords Go.Proofs.YtmepodmcmpndoaaW.PrintLast Go.Proofs.YtmepodmcmpndoaaW.PrintMore
attribute [local go_sem] max2_int min2_int max_two min_two max_three min_three max_four min_four   -- for this text's walks alone
set_option linter.unusedVariables false
set_option linter.unusedSimpArgs false



def errW : Option Int → Value
  | none => .nilIface
  | some c => .iface 0 (.int .i64 c)
theorem errW_none : errW none = .nilIface := rfl
theorem errW_some (c : Int) : errW (some c) = .iface 0 (.int .i64 c) := rfl

-- the values' own types

end Go.Proofs.Ytmepodmcmpndoaa.PBase
