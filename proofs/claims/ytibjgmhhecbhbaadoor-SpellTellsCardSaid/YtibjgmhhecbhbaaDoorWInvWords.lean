-- Out of the words that the kit's print wrote for this seat: what this claim does not name is left out.
import Derived.Test.YtibjgmhhecbhbaaDoorWInv
import Derived.Test.YtibjgmhhecbhbaaDoorWFootNe
namespace Go.Proofs.YtibjgmhhecbhbaaDoorW.PrintWords
open Go.RowKit
end Go.Proofs.YtibjgmhhecbhbaaDoorW.PrintWords
namespace Go.Proofs.YtibjgmhhecbhbaaDoorW.PrintLast
section
variable {ops : Array Oper} {a : Act} {o og : Oper} {g : Nat} {t : Tmp} {u : Bool}
end
end Go.Proofs.YtibjgmhhecbhbaaDoorW.PrintLast
