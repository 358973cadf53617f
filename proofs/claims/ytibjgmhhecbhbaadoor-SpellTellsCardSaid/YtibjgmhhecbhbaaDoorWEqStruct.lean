-- Out of the words that the kit's print wrote for this seat: what this claim does not name is left out.
import Derived.Test.YtibjgmhhecbhbaaDoorWWords
import Derived.Laws.StructEq
/-! ### 53. '==' of structs as_ one Bool -/
namespace Go.Proofs.YtibjgmhhecbhbaaDoorW.PrintWords
open Go.RowKit
section
variable {P : Program} {d : Nat} {xs ys : Array Value} {f : Field} {fs : List Field} {a b : Value} {r s : Bool} {w : World}
end
end Go.Proofs.YtibjgmhhecbhbaaDoorW.PrintWords
