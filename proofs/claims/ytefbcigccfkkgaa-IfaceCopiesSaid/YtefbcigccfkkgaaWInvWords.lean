import Derived.Test.YtefbcigccfkkgaaWInv
import Derived.Test.YtefbcigccfkkgaaWFootNe
namespace Go.Proofs.YtefbcigccfkkgaaW.PrintWords
open Go.RowKit
end Go.Proofs.YtefbcigccfkkgaaW.PrintWords
namespace Go.Proofs.YtefbcigccfkkgaaW.PrintLast
section
variable {ops : Array Oper} {a : Act} {o og : Oper} {g : Nat} {t : Tmp} {u : Bool}
end
end Go.Proofs.YtefbcigccfkkgaaW.PrintLast
