import Derived.Test.YthajbaheejdoaaaDoorWInv
import Derived.Test.YthajbaheejdoaaaDoorWFootNe
namespace Go.Proofs.YthajbaheejdoaaaDoorW.PrintWords
open Go.RowKit
end Go.Proofs.YthajbaheejdoaaaDoorW.PrintWords
namespace Go.Proofs.YthajbaheejdoaaaDoorW.PrintLast
section
variable {ops : Array Oper} {a : Act} {o og : Oper} {g : Nat} {t : Tmp} {u : Bool}
end
end Go.Proofs.YthajbaheejdoaaaDoorW.PrintLast
