-- Out of the words that the kit's print wrote for this seat: what this claim does not name is left out.
import Derived.Test.YtibjgmhhecbhbaaDoorWTab
/-! ### 56. Four, five, six operations that may come up next, in any order -/
namespace Go.Proofs.YtibjgmhhecbhbaaDoorW.PrintLast
section
variable {P : Program} {ops : Array Oper} {Q : Exit → Act → World → Prop} {md : Region.Mode} {S : World → Prop} {ds : List Nat} {T : Bool × List (List Nat × List Nat)}
end
end Go.Proofs.YtibjgmhhecbhbaaDoorW.PrintLast
