import Derived.Test.YtkpncagfhiceoaaWInv
import Derived.Test.YtkpncagfhiceoaaWFootNe
namespace Go.Proofs.YtkpncagfhiceoaaW.PrintWords
open Go.RowKit
end Go.Proofs.YtkpncagfhiceoaaW.PrintWords
namespace Go.Proofs.YtkpncagfhiceoaaW.PrintLast
section
variable {ops : Array Oper} {a : Act} {o og : Oper} {g : Nat} {t : Tmp} {u : Bool}
end
end Go.Proofs.YtkpncagfhiceoaaW.PrintLast
