import Derived.Test.YtaoopneiglgnkaaDoorWInv
import Derived.Test.YtaoopneiglgnkaaDoorWFootNe
namespace Go.Proofs.YtaoopneiglgnkaaDoorW.PrintWords
open Go.RowKit
end Go.Proofs.YtaoopneiglgnkaaDoorW.PrintWords
namespace Go.Proofs.YtaoopneiglgnkaaDoorW.PrintLast
section
variable {ops : Array Oper} {a : Act} {o og : Oper} {g : Nat} {t : Tmp} {u : Bool}
end
end Go.Proofs.YtaoopneiglgnkaaDoorW.PrintLast
