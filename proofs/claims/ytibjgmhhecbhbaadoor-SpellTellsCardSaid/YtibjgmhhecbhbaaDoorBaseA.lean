/- The row's variables as they are laid; a world that has them. -/
import Derived.Test.YtibjgmhhecbhbaaDoorRows
import Derived.Test.YtibjgmhhecbhbaaDoorTie
import Derived.Test.YtibjgmhhecbhbaaDoorCards
import Derived.Test.YtibjgmhhecbhbaaDoorTh2
import Derived.SevenTiedAt
import Derived.WalkKit
import Derived.ProofKit
import Derived.OpenShut
import Derived.ShutString
import Derived.ChangeOld
import Derived.Below
import Derived.SizedLaws
import Derived.LaidLaws
import Derived.Lib.LaidTab
import Derived.Handed
import Derived.HandedShaped
import Derived.Lib.SmallJoins
namespace Go.Proofs.YtibjgmhhecbhbaaDoor.Base
open Go.ChangeShapes Go.WideShapes Go.ChangeAt Go.RowKit Go.Joins Go.Deep Go.Proofs.YtibjgmhhecbhbaaDoorW.PrintWords Go.Proofs.YtibjgmhhecbhbaaDoor.Hand
set_option linter.unusedVariables false
set_option linter.unusedSimpArgs false

def laids : List (String × DataW Unit) := [("math/bits.deBruijn32tab", Rows.laid_math_bits_deBruijn32tab), ("math/bits.deBruijn64tab", Rows.laid_math_bits_deBruijn64tab), ("internal/strconv.uint64pow10", Rows.laid_internal_strconv_uint64pow10), ("unicode/utf8.acceptRanges", Rows.laid_unicode_utf8_acceptRanges), ("strconv.ErrRange", Rows.laid_strconv_ErrRange), ("strconv.ErrSyntax", Rows.laid_strconv_ErrSyntax), ("purlin/spell.words", Rows.laid_purlin_spell_words), ("unicode/utf8.first", Rows.laid_unicode_utf8_first)]
theorem own : ownKnob Tryd.prog.godebug = none := by kernel_rfl

def num : DataW Unit → Int
  | .lit (.int _ n) => n
  | _ => 0
def flat1 : DataW Unit → List Int
  | .agg xs => xs.map num
  | d => [num d]
def flat2 : DataW Unit → List Int
  | .agg xs => xs.flatMap flat1
  | d => [num d]
def text1 : DataW Unit → ByteArray
  | .iface _ (.ptr (.agg [.lit (.string l)])) => ⟨l.toArray⟩
  | _ => ⟨#[]⟩
/-- A world that meets the condition: the settled one, the variables laid. -/
noncomputable def laidWorld (os : Os) : World :=
  let w0 := World.holding Tryd.prog os ⟨#[], #[], []⟩
  let n := w0.heap.size
  { w0 with heap := (((((((((w0.heap.modify 7 fun
      | .cells _ t frozen => .cells ((flat1 Rows.laid_math_bits_deBruijn32tab).map fun z => Value.int .u8 z).toArray t frozen
      | o => o).modify 8 fun
      | .cells _ t frozen => .cells ((flat1 Rows.laid_math_bits_deBruijn64tab).map fun z => Value.int .u8 z).toArray t frozen
      | o => o).modify 4 fun
      | .cells _ t frozen => .cells ((flat1 Rows.laid_internal_strconv_uint64pow10).map fun z => Value.int .u64 z).toArray t frozen
      | o => o).modify 6 fun
      | .cells _ t frozen => .cells ((flat2 Rows.laid_unicode_utf8_acceptRanges).map fun z => Value.int .u8 z).toArray t frozen
      | o => o).modify 5 fun
      | .cells _ t frozen => .cells ((flat1 Rows.laid_unicode_utf8_first).map fun z => Value.int .u8 z).toArray t frozen
      | o => o).modify 0 fun
      | .cells _ t frozen => .cells (wordsB.map Value.string).toArray t frozen
      | o => o).modify 3 fun
      | .cells _ t frozen => .cells #[.iface 86 (.pointer (some ⟨n, 0, none⟩))] t frozen
      | o => o).modify 2 fun
      | .cells _ t frozen => .cells #[.iface 86 (.pointer (some ⟨n + 1, 0, none⟩))] t frozen
      | o => o).push (.cells #[.string (text1 Rows.laid_strconv_ErrRange)] 88)).push (.cells #[.string (text1 Rows.laid_strconv_ErrSyntax)] 88) }
set_option maxRecDepth 100000 in
theorem laidWorld_met (os : Os) (args : Array Value) : laidMet Tryd.prog laids ((laidWorld os).forCall (fun _ _ => 0) ⟨#[], args, []⟩).memory :=
  laidMet_of_run' 8 (by kernel_rfl) (by kernel_rfl)
end Go.Proofs.YtibjgmhhecbhbaaDoor.Base
