/- Whole numbers below 2 to the 53 are exact; what a quotient of two of them is rounded from. -/
import Derived.Test.YtgcoodameahkbaaDoorFlOrder
namespace Go.Proofs.YtgcoodameahkbaaDoor.Fl
open Ieee

theorem log2_lt53 {k : Nat} (hk : k ≠ 0) (h : k < 9007199254740992) : k.log2 ≤ 52 := by
  obtain ⟨a1, _⟩ := log2_b hk
  have : 2 ^ k.log2 < 2 ^ 53 := Nat.lt_of_le_of_lt a1 h
  have := (Nat.pow_lt_pow_iff_right (by omega)).1 this
  omega

theorem mant_b {k : Nat} (hk : k ≠ 0) (h : k < 9007199254740992) : 4503599627370496 ≤ k * 2 ^ (52 - k.log2) ∧ k * 2 ^ (52 - k.log2) < 9007199254740992 := by
  obtain ⟨a1, b1⟩ := log2_b hk
  have hl := log2_lt53 hk h
  have h2 : 2 ^ k.log2 * 2 ^ (52 - k.log2) ≤ k * 2 ^ (52 - k.log2) := Nat.mul_le_mul_right _ a1
  have h3 : k * 2 ^ (52 - k.log2) < 2 ^ (k.log2 + 1) * 2 ^ (52 - k.log2) := Nat.mul_lt_mul_of_pos_right b1 (Nat.two_pow_pos _)
  rw [← Nat.pow_add] at h2 h3
  rw [show k.log2 + (52 - k.log2) = 52 by omega] at h2
  rw [show k.log2 + 1 + (52 - k.log2) = 53 by omega] at h3
  exact ⟨h2, h3⟩

theorem rung_int {k : Nat} (hk : k ≠ 0) (h : k < 9007199254740992) : rungOf k 0 = (k.log2 + 1022) * 4503599627370496 + k * 2 ^ (52 - k.log2) := by
  have hl := log2_lt53 hk h
  have e : lastOf k 0 = (k.log2 : Int) - 52 := by unfold lastOf; omega
  unfold rungOf
  rw [e, show ((k.log2 : Int) - 52 + 1074).toNat = k.log2 + 1022 by omega, show (0 - ((k.log2 : Int) - 52)).toNat = 52 - k.log2 by omega, show ((k.log2 : Int) - 52 - 0).toNat = 0 by omega]
  unfold rnd
  simp [Nat.mod_one]

theorem rung_int_lt {k : Nat} (hk : k ≠ 0) (h : k < 9007199254740992) : rungOf k 0 < 9218868437227405312 := by
  have hl := log2_lt53 hk h
  have hm := mant_b hk h
  rw [rung_int hk h]
  omega

theorem floatOfInt_pos {k : Nat} (hk : k ≠ 0) (h : k < 9007199254740992) : floatOfInt .f64 (k : Int) = rungOf k 0 := by
  show double.nearest (decide ((k : Int) < 0)) (k : Int).natAbs 0 = _
  rw [show decide ((k : Int) < 0) = false by simp, Int.natAbs_natCast, nearest_eq false hk, Nat.min_eq_left (Nat.le_of_lt (rung_int_lt hk h))]
  rfl

theorem floatOfInt_zero : floatOfInt .f64 0 = 0 := by decide

theorem read_int {k : Nat} (hk : k ≠ 0) (h : k < 9007199254740992) : double.read (rungOf k 0) = .number false (k * 2 ^ (52 - k.log2)) ((k.log2 : Int) - 52) := by
  have hl := log2_lt53 hk h
  have hm := mant_b hk h
  have hlt := rung_int_lt hk h
  rw [rung_int hk h] at hlt ⊢
  generalize k * 2 ^ (52 - k.log2) = n at hm hlt ⊢
  generalize hE : k.log2 + 1022 = E at hlt ⊢
  unfold Format.read
  simp only [swD, binD, infD, leastD]
  rw [Nat.mod_eq_of_lt (show E * 4503599627370496 + n < 9223372036854775808 by omega), Nat.div_eq_of_lt (show E * 4503599627370496 + n < 9223372036854775808 by omega), if_neg (by omega), if_pos hlt,
    show (E * 4503599627370496 + n) % 4503599627370496 = n - 4503599627370496 by omega, show (E * 4503599627370496 + n) / 4503599627370496 - 1 = E by omega, show 4503599627370496 + (n - 4503599627370496) = n by omega, show (-1074 : Int) + (E : Int) = (k.log2 : Int) - 52 by omega]
  rfl
theorem read_zero : double.read 0 = .number false 0 (-1074) := by decide

/-- what a quotient of two whole numbers is rounded from -/
def quoM (f t : Nat) : Nat := 2 * (f * 2 ^ (52 - f.log2) * 2 ^ 54 / (t * 2 ^ (52 - t.log2))) + (f * 2 ^ (52 - f.log2) * 2 ^ 54 % (t * 2 ^ (52 - t.log2)) != 0).toNat
def quoP (f t : Nat) : Int := (f.log2 : Int) - t.log2 - 55

theorem mant_log {k : Nat} (hk : k ≠ 0) (h : k < 9007199254740992) : (k * 2 ^ (52 - k.log2)).log2 = 52 := by
  have hm := mant_b hk h
  refine (Nat.log2_eq_iff (by omega)).2 ?_
  omega

theorem quoM_pos {f t : Nat} (hf : f ≠ 0) (ht : t ≠ 0) (h1 : f < 9007199254740992) (h2 : t < 9007199254740992) : quoM f t ≠ 0 := by
  have mf := mant_b hf h1
  have mt := mant_b ht h2
  unfold quoM
  generalize f * 2 ^ (52 - f.log2) = F at mf ⊢
  generalize t * 2 ^ (52 - t.log2) = T at mt ⊢
  have : 1 ≤ F * 2 ^ 54 / T := by rw [Nat.le_div_iff_mul_le (by omega)]; omega
  omega

theorem quo_eq {f t : Nat} (hf : f ≠ 0) (ht : t ≠ 0) (h1 : f < 9007199254740992) (h2 : t < 9007199254740992) :
    floatBits .quo .f64 (rungOf f 0) (rungOf t 0) = some (double.nearest false (quoM f t) (quoP f t)) := by
  have mf := mant_b hf h1
  have mt := mant_b ht h2
  show (((double.read (rungOf f 0)).quotient (double.fractionBits + 2) (double.read (rungOf t 0))).map double.write) = _
  rw [read_int hf h1, read_int ht h2]
  have l1 := mant_log hf h1
  have l2 := mant_log ht h2
  unfold Datum.quotient
  simp only []
  rw [if_neg (by omega), l1, l2, show double.fractionBits + 2 + 52 - 52 = 54 from rfl, Nat.shiftLeft_eq]
  show some (double.nearest _ _ _) = _
  unfold quoM quoP
  congr 2
  omega

end Go.Proofs.YtgcoodameahkbaaDoor.Fl
