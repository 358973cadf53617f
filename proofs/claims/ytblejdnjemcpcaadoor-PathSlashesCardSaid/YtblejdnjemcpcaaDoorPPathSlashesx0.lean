-- made by the kit's print, one law, no byte bound
import Derived.Test.YtblejdnjemcpcaaDoorProg
import Derived.Below
import Derived.Deep.Draws
import Derived.Deep.AppendLies
import Derived.Maps.AppendAt
import Derived.OwnWalk
import Derived.Laws.BytesArg
import Derived.Laws.MakeOwn
import Derived.Laws.OwnMore
import Derived.Deep.OwnRows
import Derived.Tactics
import Derived.Lib.ConvBytes
import Derived.Laws.Slices
import Derived.WalkKit
import Derived.KernelRfl
import Derived.RowKit3
import Derived.Deep.LoopGhost
import Derived.Deep.QuietTactic
import Derived.BigQuiet
import Derived.WideLaws
import Derived.Deep.DeepCutAuto
import Derived.Deep.CutBlock
import Derived.Deep.RegionHeld3
import Derived.Laws.Rows
import Derived.Lib.AppendStr
import Derived.ArgAppend
import Derived.Laws.IdiomCopy
import Derived.OrdersHeld
import Derived.Laws.BitsLemmas
import Derived.RowKit
import Derived.Test.YtblejdnjemcpcaaDoorHand
import Derived.Test.YtblejdnjemcpcaaDoorWWords
import Derived.Test.YtblejdnjemcpcaaDoorWLast
import Derived.Test.YtblejdnjemcpcaaDoorWTab
import Derived.Test.YtblejdnjemcpcaaDoorWFour
import Derived.Test.YtblejdnjemcpcaaDoorWQPut
import Derived.Test.YtblejdnjemcpcaaDoorWApart
import Derived.Test.YtblejdnjemcpcaaDoorWArr
import Derived.Test.YtblejdnjemcpcaaDoorWZeros
import Derived.Test.YtblejdnjemcpcaaDoorWFoot
import Derived.Test.YtblejdnjemcpcaaDoorWKept
import Derived.Test.YtblejdnjemcpcaaDoorWShare
import Derived.Test.YtblejdnjemcpcaaDoorWN
import Derived.Test.YtblejdnjemcpcaaDoorWFootNe
import Derived.Test.YtblejdnjemcpcaaDoorWAt
import Derived.Test.YtblejdnjemcpcaaDoorWEqStruct
import Derived.Test.YtblejdnjemcpcaaDoorWRepsOne
import Derived.Test.YtblejdnjemcpcaaDoorWInv
import Derived.Test.YtblejdnjemcpcaaDoorWInvWords
import Derived.Test.YtblejdnjemcpcaaDoorWGuard
import Derived.Test.YtblejdnjemcpcaaDoorWNEv
import Derived.Test.YtblejdnjemcpcaaDoorWMore
namespace Go.Proofs.YtblejdnjemcpcaaDoor.PPathSlashes
open Go.RowKit Go.Proofs.YtblejdnjemcpcaaDoorW.PrintWords Go.Proofs.YtblejdnjemcpcaaDoorW.PrintLast Go.Proofs.YtblejdnjemcpcaaDoorW.PrintMore Go.Proofs.YtblejdnjemcpcaaDoor.Hand
attribute [local go_sem] max2_int min2_int max_two min_two max_three min_three max_four min_four   -- for this text's walks alone
set_option linter.unusedVariables false
set_option linter.unusedSimpArgs false



def errW : Option Int → Value
  | none => .nilIface
  | some c => .iface 0 (.int .i64 c)
theorem errW_none : errW none = .nilIface := rfl
theorem errW_some (c : Int) : errW (some c) = .iface 0 (.int .i64 c) := rfl

theorem info3 : (Tryd.prog.info? 3).map (fun i => (i.zero, i.size, i.bytes)) = some (some (.int .i64 0), 1, 8) := by kernel_rfl
theorem info9 : (Tryd.prog.info? 9).map (fun i => (i.zero, i.size, i.bytes)) = some (some (.string ⟨#[]⟩), 1, 16) := by kernel_rfl
-- the values' own types

end Go.Proofs.YtblejdnjemcpcaaDoor.PPathSlashes
