/- The walk of the law, part 0: made by the kit's print, and mended by hand. -/
import Derived.Test.YtibjgmhhecbhbaaDoorProg
import Derived.Below
import Derived.Deep.Draws
import Derived.Deep.AppendLies
import Derived.Maps.AppendAt
import Derived.OwnWalk
import Derived.Laws.BytesArg
import Derived.Laws.MakeOwn
import Derived.Laws.OwnMore
import Derived.Deep.OwnRows
import Derived.Tactics
import Derived.Lib.ConvBytes
import Derived.Laws.Slices
import Derived.WalkKit
import Derived.KernelRfl
import Derived.RowKit3
import Derived.Deep.LoopGhost
import Derived.Deep.QuietTactic
import Derived.BigQuiet
import Derived.WideLaws
import Derived.Deep.DeepCutAuto
import Derived.Deep.CutBlock
import Derived.Deep.RegionHeld3
import Derived.Laws.Rows
import Derived.Lib.AppendStr
import Derived.ArgAppend
import Derived.Laws.IdiomCopy
import Derived.OrdersHeld
import Derived.Laws.BitsLemmas
import Derived.RowKit
import Derived.Test.YtibjgmhhecbhbaaDoorRead
import Derived.Test.YtibjgmhhecbhbaaDoorMarkMore
import Derived.Test.YtibjgmhhecbhbaaDoorOver
import Derived.Test.YtibjgmhhecbhbaaDoorWWords
import Derived.Test.YtibjgmhhecbhbaaDoorWLast
import Derived.Test.YtibjgmhhecbhbaaDoorWTab
import Derived.Test.YtibjgmhhecbhbaaDoorWFour
import Derived.Test.YtibjgmhhecbhbaaDoorWQPut
import Derived.Test.YtibjgmhhecbhbaaDoorWApart
import Derived.Test.YtibjgmhhecbhbaaDoorWArr
import Derived.Test.YtibjgmhhecbhbaaDoorWZeros
import Derived.Test.YtibjgmhhecbhbaaDoorWFoot
import Derived.Test.YtibjgmhhecbhbaaDoorWKept
import Derived.Test.YtibjgmhhecbhbaaDoorWShare
import Derived.Test.YtibjgmhhecbhbaaDoorWN
import Derived.Test.YtibjgmhhecbhbaaDoorWFootNe
import Derived.Test.YtibjgmhhecbhbaaDoorWAt
import Derived.Test.YtibjgmhhecbhbaaDoorWEqStruct
import Derived.Test.YtibjgmhhecbhbaaDoorWRepsOne
import Derived.Test.YtibjgmhhecbhbaaDoorWInv
import Derived.Test.YtibjgmhhecbhbaaDoorWInvWords
import Derived.Test.YtibjgmhhecbhbaaDoorWGuard
import Derived.Test.YtibjgmhhecbhbaaDoorWNEv
import Derived.Test.YtibjgmhhecbhbaaDoorWMore
namespace Go.Proofs.YtibjgmhhecbhbaaDoor.PSpellTells
open Go.RowKit Go.Proofs.YtibjgmhhecbhbaaDoorW.PrintWords Go.Proofs.YtibjgmhhecbhbaaDoorW.PrintLast Go.Proofs.YtibjgmhhecbhbaaDoorW.PrintMore Go.Proofs.YtibjgmhhecbhbaaDoor.Hand
attribute [local go_sem] max2_int min2_int max_two min_two max_three min_three max_four min_four   -- for this text's walks alone
set_option linter.unusedVariables false
set_option linter.unusedSimpArgs false



def errW : Option Int → Value
  | none => .nilIface
  | some c => .iface 0 (.int .i64 c)
theorem errW_none : errW none = .nilIface := rfl
theorem errW_some (c : Int) : errW (some c) = .iface 0 (.int .i64 c) := rfl

theorem info3 : (Tryd.prog.info? 3).map (fun i => (i.zero, i.size, i.bytes)) = some (some (.int .i64 0), 1, 8) := by kernel_rfl
theorem info5 : (Tryd.prog.info? 5).map (fun i => (i.zero, i.size, i.bytes)) = some (some (.int .u8 0), 1, 1) := by kernel_rfl
theorem info9 : (Tryd.prog.info? 9).map (fun i => (i.zero, i.size, i.bytes)) = some (some (.string ⟨#[]⟩), 1, 16) := by kernel_rfl
-- the values' own types

end Go.Proofs.YtibjgmhhecbhbaaDoor.PSpellTells
