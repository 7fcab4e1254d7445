import Derived.Test.YtedampcicmaamaaWInv
import Derived.Test.YtedampcicmaamaaWFootNe
namespace Go.Proofs.YtedampcicmaamaaW.PrintWords
open Go.RowKit
end Go.Proofs.YtedampcicmaamaaW.PrintWords
namespace Go.Proofs.YtedampcicmaamaaW.PrintLast
section
variable {ops : Array Oper} {a : Act} {o og : Oper} {g : Nat} {t : Tmp} {u : Bool}
end
end Go.Proofs.YtedampcicmaamaaW.PrintLast
