/- What Share, Abs and IsInf answer, for all arguments; where a share is no number its bits are the tape's. -/
import Derived.Test.YtgcoodameahkbaaDoorFl1
import Derived.Laws.BitsAllLaws
namespace Go.Proofs.YtgcoodameahkbaaDoor.Fl
open Go.RowKit

theorem fmt : FloatKind.f64.format = Ieee.double := rfl
theorem sw : Ieee.double.signWeight = 9223372036854775808 := by decide
theorem bn : Ieee.double.binade = 4503599627370496 := by decide
theorem ir : Ieee.double.infRung = 9218868437227405312 := by decide
theorem read_nan {b : Nat} (h : 9218868437227405312 < b % 9223372036854775808) : Ieee.double.read b = .nan (b / 9223372036854775808 % 2 == 1) (b % 9223372036854775808 - 9218868437227405312) := by
  unfold Ieee.Format.read
  simp only [sw, bn, ir]
  rw [if_neg (by omega), if_neg (by omega), if_neg (by omega)]
theorem nan_of {b : Nat} (h : 9218868437227405312 < b % 9223372036854775808) : nanB b = true := by
  unfold nanB
  rw [fmt]
  unfold Ieee.Format.order
  rw [read_nan h]
  rfl

/-- what the tape gives where a sum has no value -/
def nanOf (w : World) (x y : Nat) : Nat := (Question.nanBits .f64 x y).cut (w.tape w.drawn (.nanBits .f64 x y))
theorem nanOf_spec (w : World) (x y : Nat) : nanB (nanOf w x y) = true ∧ nanOf w x y < 18446744073709551616 := by
  have e : ∀ t, (Question.nanBits .f64 x y).cut t = t % 2 * 2 ^ 63 + 0x7ff0000000000000 + 1 + t / 2 % (2 ^ 52 - 1) := fun _ => rfl
  unfold nanOf
  rw [e]
  generalize w.tape w.drawn (.nanBits .f64 x y) = t
  have h : t / 2 % (2 ^ 52 - 1) < 4503599627370495 := Nat.mod_lt _ (by decide)
  have h2 : t % 2 = 0 ∨ t % 2 = 1 := by omega
  generalize t / 2 % (2 ^ 52 - 1) = m at h ⊢
  refine ⟨nan_of ?_, ?_⟩
  · rcases h2 with h2 | h2 <;> rw [h2] <;> omega
  · omega

theorem run_float_none {P : Program} (w : World) (op : BinOp) (t : TypeId) (x y : Nat) (hop : op = .add ∨ op = .quo) (h : floatBits op .f64 x y = none) :
    (binOp op t (.float .f64 x) (.float .f64 y)).run P w = .ok (.float .f64 (nanOf w x y)) w.drew := by
  unfold floatBits at h
  rcases hop with rfl | rfl <;> simp only at h <;> simp [binOp, Op.floatArith, h, nanOf, Question.forced]

theorem share_some (free total : Int) (r : Nat) (h : floatBits .quo .f64 (floatOfInt .f64 free) (floatOfInt .f64 total) = some r) (w : World) :
    Calls Tryd.prog 13 #[.int .i64 free, .int .i64 total] w fun e w' => e = .returned (.float .f64 r) ∧ w = w' := by
  have hq := fun W => run_float_arith (P := Tryd.prog) W .quo 24 .f64 _ _ r h
  clear h
  go_enter Tryd.func13, Tryd.ntmps13
  go_wp2
  go_ret
  exact ⟨rfl, rfl⟩

theorem share_none (free total : Int) (h : floatBits .quo .f64 (floatOfInt .f64 free) (floatOfInt .f64 total) = none) (w : World) :
    Calls Tryd.prog 13 #[.int .i64 free, .int .i64 total] w fun e w' => (∃ r, e = .returned (.float .f64 r) ∧ nanB r = true ∧ r < 18446744073709551616) ∧ w.drew = w' := by
  have hq := fun W => run_float_none (P := Tryd.prog) W .quo 24 _ _ (.inr rfl) h
  clear h
  go_enter Tryd.func13, Tryd.ntmps13
  go_wp2
  go_ret
  exact ⟨⟨_, rfl, nanOf_spec _ _ _⟩, rfl⟩

theorem absB_bits (b : Nat) (hb : b < 18446744073709551616) : (bits BinOp.andNot IntKind.u64 (b : Int) 9223372036854775808).toNat = absB b := by
  have h := u64_andNot_nat b 9223372036854775808 hb (by omega)
  rw [show ((9223372036854775808 : Nat) : Int) = 9223372036854775808 from rfl] at h
  rw [h, Int.toNat_natCast, show 18446744073709551615 - 9223372036854775808 = 2 ^ 63 - 1 from rfl, Nat.and_two_pow_sub_one_eq_mod]
  rfl

theorem abs_any (b : Nat) (hb : b < 18446744073709551616) (w : World) : Calls Tryd.prog 39 #[.float .f64 b] w fun e w' => e = .returned (.float .f64 (absB b)) ∧ w = w' := by
  go_enter Tryd.func39, Tryd.ntmps39
  go_wp2
  rw [run_bits, Oper.upon_value]
  go_wp2
  rw [run_frombits, Oper.upon_value]
  go_wp2
  go_ret
  exact ⟨by rw [← absB_bits b hb]; rfl, rfl⟩

theorem isInf_pos (b : Nat) (w : World) : Calls Tryd.prog 14 #[.float .f64 b, .int .i64 1] w fun e w' => e = .returned (.bool (FloatKind.f64.format.order b 9218868437227405311 == some .gt)) ∧ w = w' := by
  go_enter Tryd.func14, Tryd.ntmps14
  go_wp2
  go_ret
  exact ⟨rfl, rfl⟩

theorem isInf_neg (b : Nat) (w : World) : Calls Tryd.prog 14 #[.float .f64 b, .int .i64 (-1)] w fun e w' => e = .returned (.bool (FloatKind.f64.format.order (Op.negFloat .f64 b) 9218868437227405311 == some .gt)) ∧ w = w' := by
  have hn : Op.unary .neg (.float .f64 b) = pure (.float .f64 (Op.negFloat .f64 b)) := rfl
  go_enter Tryd.func14, Tryd.ntmps14
  go_wp2
  go_ret
  exact ⟨rfl, rfl⟩

theorem isInf_zero (b : Nat) (hb : b < 18446744073709551616) (w : World) : Calls Tryd.prog 14 #[.float .f64 b, .int .i64 0] w fun e w' => e = .returned (.bool (FloatKind.f64.format.order (absB b) 9218868437227405311 == some .gt)) ∧ w = w' := by
  go_enter Tryd.func14, Tryd.ntmps14
  go_wp2_with (go_at_call 39; refine (abs_any _ hb _).mono ?_; rintro e w' ⟨rfl, rfl⟩)
  go_ret
  exact ⟨rfl, rfl⟩
end Go.Proofs.YtgcoodameahkbaaDoor.Fl
