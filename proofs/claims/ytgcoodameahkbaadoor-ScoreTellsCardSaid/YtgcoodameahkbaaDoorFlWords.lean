/- Words on 64-bit floats by their bits: order, sign, no number, the greatest one. -/
import Derived.WalkKit
import Derived.Laws.FloatArith
namespace Go.Proofs.YtgcoodameahkbaaDoor.Fl
open Go.RowKit
abbrev ordF (a b : Nat) : Option Ordering := FloatKind.f64.format.order a b
def nanB (b : Nat) : Bool := FloatKind.f64.format.order b b != some .eq
def sgnB (b : Nat) : Bool := decide (9223372036854775808 ≤ b)
def belowB (a b : Nat) : Bool := if FloatKind.f64.format.order a 0 == some .eq && FloatKind.f64.format.order b 0 == some .eq then sgnB a && !sgnB b else FloatKind.f64.format.order a b == some .lt
def lessB (a b : Nat) : Bool := if nanB a || nanB b then nanB a && !nanB b else belowB a b
def alikeB (a b : Nat) : Bool := !lessB a b && !lessB b a
def absB (b : Nat) : Nat := b % 9223372036854775808
def nanC : Nat := 9221120237041090561
def clampB (x lo hi : Nat) : Nat := if nanB x || nanB lo || nanB hi || lessB hi lo then nanC else if lessB x lo then lo else if lessB hi x then hi else x
def truncB (b : Nat) : Nat := FloatKind.f64.encode ((FloatKind.f64.decode b).integral .zero)
def bestTo (xs : List Nat) : Nat → Int
  | 0 => -1
  | k + 1 => if !nanB (xs.getD k 0) && (decide (bestTo xs k < 0) || lessB (xs.getD (bestTo xs k).toNat 0) (xs.getD k 0)) then (k : Int) else bestTo xs k
theorem bestTo_bd (xs : List Nat) (k : Nat) : -1 ≤ bestTo xs k ∧ bestTo xs k < k := by
  induction k with
  | zero => simp [bestTo]
  | succ k ih => unfold bestTo; split <;> omega
theorem sgn_wrap {b : Nat} (hb : b < 18446744073709551616) : decide (wrap64 (b : Int) < 0) = sgnB b := by
  unfold sgnB wrap64
  apply decide_eq_decide.mpr
  omega
end Go.Proofs.YtgcoodameahkbaaDoor.Fl
