/- The rows' tables: how they are laid, and what FormatInt needs of them. -/
import Derived.Test.YtgcoodameahkbaaDoorRows
import Derived.Test.YtgcoodameahkbaaDoorTie
import Derived.Test.YtgcoodameahkbaaDoorCards
import Derived.SevenTiedAt
import Derived.WalkKit
import Derived.ProofKit
import Derived.OpenShut
import Derived.ShutString
import Derived.ChangeOld
import Derived.Below
import Derived.SizedLaws
import Derived.LaidLaws
import Derived.Lib.LaidTab
import Derived.Handed
import Derived.Lib.ItoaMem
namespace Go.Proofs.YtgcoodameahkbaaDoor.Base
open Go.ChangeShapes Go.WideShapes Go.ChangeAt Go.RowKit

def laids : List (String × DataW Unit) := [("math/bits.deBruijn32tab", Rows.laid_math_bits_deBruijn32tab), ("math/bits.deBruijn64tab", Rows.laid_math_bits_deBruijn64tab), ("internal/strconv.uint64pow10", Rows.laid_internal_strconv_uint64pow10)]
theorem own : ownKnob Tryd.prog.godebug = none := by kernel_rfl
theorem g1 : Tryd.prog.globalNamed "internal/strconv.uint64pow10" = some 1 := by kernel_rfl
theorem g2 : Tryd.prog.globalNamed "math/bits.deBruijn32tab" = some 2 := by kernel_rfl
theorem g3 : Tryd.prog.globalNamed "math/bits.deBruijn64tab" = some 3 := by kernel_rfl

/-- The table's fact out of the row's condition: it stands third. -/
theorem tab_of {W : World} (h : laidMet Tryd.prog laids W) : Lib.TabIs Tryd.prog W "internal/strconv.uint64pow10" .u64 Lib.pow10Tab := by
  obtain ⟨ps, ⟨g, t, cs, fuel, p, q, hg, ht, hv, hd, hrest, hps⟩, hn, hr⟩ := h
  obtain ⟨g, t, cs, fuel, p, q, hg, ht, hv, hd, hrest, hps⟩ := hrest
  obtain ⟨g, t, cs, fuel, p, q, hg, ht, hv, hd, hrest, hps⟩ := hrest
  obtain rfl := Option.some.inj (g1.symm.trans hg)
  obtain rfl := Option.some.inj ((show (Tryd.prog.globals[1]?).map (·.type) = some 72 by kernel_rfl).symm.trans ht)
  have e : (Rows.laid_internal_strconv_uint64pow10 : DataW Unit) = Lib.tabData .u64 Lib.pow10Tab := by kernel_rfl
  rw [e] at hd
  unfold Lib.TabIs
  rw [hv, ← Lib.cells_of_tab Tryd.underlying72 Tryd.underlying38 (by kernel_rfl) (by kernel_rfl) hd]

def tab32 : List Int := match (Rows.laid_math_bits_deBruijn32tab : DataW Unit) with
  | .agg xs => xs.map fun d => match d with | .lit (.int _ n) => n | _ => 0
  | _ => []
def tab64 : List Int := match (Rows.laid_math_bits_deBruijn64tab : DataW Unit) with
  | .agg xs => xs.map fun d => match d with | .lit (.int _ n) => n | _ => 0
  | _ => []
/-- A world that meets the condition: the settled one, the three tables laid. -/
noncomputable def laidWorld (os : Os) : World :=
  let w0 := World.holding Tryd.prog os ⟨#[], #[], []⟩
  { w0 with heap := ((w0.heap.modify 1 fun
      | .cells _ t frozen => .cells (Lib.pow10Tab.map fun z => Value.int .u64 z).toArray t frozen
      | o => o).modify 2 fun
      | .cells _ t frozen => .cells (tab32.map fun z => Value.int .u8 z).toArray t frozen
      | o => o).modify 3 fun
      | .cells _ t frozen => .cells (tab64.map fun z => Value.int .u8 z).toArray t frozen
      | o => o }
set_option maxRecDepth 100000 in
theorem laidWorld_met (os : Os) (args : Array Value) : laidMet Tryd.prog laids ((laidWorld os).forCall (fun _ _ => 0) ⟨#[], args, []⟩).memory :=
  laidMet_of_run' 8 (by kernel_rfl) (by kernel_rfl)
/-- Where a cell is, there is a block. -/
theorem cell_lt {w : World} {b o : Nat} {s : Option Nat} {v : Value} (h : w.cell? ⟨b, o, s⟩ = some v) : b < w.heap.size := by
  by_cases c : b < w.heap.size
  · exact c
  · exfalso
    unfold World.cell? at h
    rw [Array.getElem?_eq_none (by simpa using c)] at h
    cases h
end Go.Proofs.YtgcoodameahkbaaDoor.Base
