/- What a share is: it grows; all is one; nothing is none; by nothing it is without an end. -/
import Derived.Test.YtgcoodameahkbaaDoorFlQuo
namespace Go.Proofs.YtgcoodameahkbaaDoor.Fl
open Ieee

def shr (f t : Nat) : Nat := if f = 0 then 0 else rungOf (quoM f t) (quoP f t)

theorem log2_le_of {f : Nat} {e : Nat} (hf : f ≠ 0) (h : f < 2 ^ (e + 1)) : f.log2 ≤ e := by
  obtain ⟨a1, _⟩ := log2_b hf
  have := (Nat.pow_lt_pow_iff_right (by omega)).1 (Nat.lt_of_le_of_lt a1 h)
  omega

theorem shr_fin {f t : Nat} (ht : t ≠ 0) (h1 : f < 9007199254740992) (h2 : t < 9007199254740992) : shr f t < 9218868437227405312 := by
  unfold shr
  split
  · omega
  · rename_i hf
    have := quo_le hf ht h1 h2 (K := f) (S := 0) hf (by have := log2_lt53 hf h1; omega) (by omega) (by rw [Nat.pow_zero]; exact Nat.mul_le_mul_left _ (by omega))
    have := rung_int_lt hf h1
    simp only [Int.ofNat_zero, Int.neg_zero] at *
    omega

theorem share_eq {f t : Nat} (ht : t ≠ 0) (h1 : f < 9007199254740992) (h2 : t < 9007199254740992) : floatBits .quo .f64 (floatOfInt .f64 (f : Int)) (floatOfInt .f64 (t : Int)) = some (shr f t) := by
  have hfin := shr_fin ht h1 h2
  rw [floatOfInt_pos ht h2]
  by_cases hf : f = 0
  · subst hf
    show floatBits .quo .f64 (floatOfInt .f64 0) _ = _
    rw [floatOfInt_zero]
    show (((double.read 0).quotient (double.fractionBits + 2) (double.read (rungOf t 0))).map double.write) = _
    rw [read_zero, read_int ht h2]
    have mt := mant_b ht h2
    unfold Datum.quotient
    simp only []
    rw [if_neg (by omega), Nat.zero_shiftLeft, Nat.zero_div, Nat.zero_mod]
    show some (double.nearest _ _ _) = _
    have e : 2 * 0 + (0 != 0 : Bool).toNat = 0 := rfl
    rw [e]
    unfold Format.nearest
    rw [if_pos rfl]
    unfold shr
    rw [if_pos rfl]
    rfl
  · rw [floatOfInt_pos hf h1, quo_eq hf ht h1 h2, nearest_eq false (quoM_pos hf ht h1 h2)]
    unfold shr at hfin ⊢
    rw [if_neg hf] at hfin ⊢
    rw [Nat.min_eq_left (Nat.le_of_lt hfin)]
    rfl

theorem nan_fin {r : Nat} (h : r < 9218868437227405312) : nanB r = false := by
  unfold nanB
  have := order_pos h h
  rw [show compare r r = Ordering.eq by simp] at this
  show (double.order r r != some .eq) = false
  rw [this]; rfl

theorem less_pos {r s : Nat} (hs : s < 9218868437227405312) (h : r < s) : lessB r s = true := by
  have h0 := order_pos (show r < 9218868437227405312 by omega) hs
  have h1 := order_pos hs (show 0 < 9218868437227405312 by omega)
  unfold lessB
  rw [nan_fin (show r < 9218868437227405312 by omega), nan_fin hs]
  simp only [Bool.or_false, Bool.false_eq_true, if_false]
  unfold belowB
  have e : (FloatKind.f64.format.order s 0 == some .eq) = false := by
    show (double.order s 0 == some .eq) = false
    rw [h1, Nat.compare_eq_gt.2 (by omega)]; rfl
  rw [e, Bool.and_false]
  show (double.order r s == some .lt) = true
  rw [h0, Nat.compare_eq_lt.2 h]; rfl

theorem rung_pos {K : Nat} {S : Nat} (hK : K ≠ 0) (h : K < 9007199254740992) (hS : S ≤ 60) : 0 < rungOf K (-(S : Int)) := by
  refine lt_of_V ?_
  rw [V_exact hK h (by omega)]
  show 0 < _
  exact Nat.mul_pos (by omega) (Nat.two_pow_pos _)

theorem shr_lt {f t : Nat} (ht : t ≠ 0) (h1 : f < 1000000) (h2 : t ≤ 1000000) : shr f t < shr (f + 1) t := by
  have hl1 : (f + 1).log2 ≤ 19 := log2_le_of (by omega) (show f + 1 < 2 ^ (19 + 1) by omega)
  have hT : (f + 1) * 2 ^ 30 / t * t ≤ (f + 1) * 2 ^ 30 := Nat.div_mul_le_self _ _
  have hK2 : (f + 1) * 2 ^ 30 / t < 9007199254740992 := by
    have : (f + 1) * 2 ^ 30 / t ≤ (f + 1) * 2 ^ 30 := Nat.div_le_self _ _
    omega
  have hK0 : f * 2 ^ 30 / t + 2 ≤ (f + 1) * 2 ^ 30 / t := by
    rw [Nat.le_div_iff_mul_le (by omega), Nat.add_mul]
    have := Nat.div_mul_le_self (f * 2 ^ 30) t
    omega
  have hm : f * 2 ^ 30 ≤ (f * 2 ^ 30 / t + 1) * t := by
    have h3 := Nat.div_add_mod (f * 2 ^ 30) t
    have h4 := Nat.mod_lt (f * 2 ^ 30) (show 0 < t by omega)
    rw [Nat.mul_comm t] at h3
    rw [Nat.add_mul]
    omega
  obtain ⟨k2, hk2⟩ : ∃ k, k = (f + 1) * 2 ^ 30 / t := ⟨_, rfl⟩
  obtain ⟨k1, hk1⟩ : ∃ k, k = f * 2 ^ 30 / t := ⟨_, rfl⟩
  rw [← hk2] at hT hK2 hK0
  rw [← hk1] at hK0 hm
  clear hk1 hk2
  have g2 := quo_ge (f := f + 1) (t := t) (K := k2) (S := 30) (by omega) ht (by omega) (by omega) (by omega) (by omega) (by omega) hT
  have e2 : shr (f + 1) t = rungOf (quoM (f + 1) t) (quoP (f + 1) t) := by unfold shr; rw [if_neg (by omega)]
  rw [e2]
  by_cases hf : f = 0
  · have := rung_pos (K := k2) (S := 30) (by omega) hK2 (by omega)
    unfold shr
    rw [if_pos hf]
    omega
  · have hl : f.log2 ≤ 19 := log2_le_of hf (show f < 2 ^ (19 + 1) by omega)
    have g1 := quo_le (f := f) (t := t) (K := k1 + 1) (S := 30) hf ht (by omega) (by omega) (by omega) (by omega) (by omega) hm
    have g3 := rung_lt (k1 := k1 + 1) (k2 := k2) (p := -((30 : Nat) : Int)) (by omega) hK2 (by omega) (by omega)
    unfold shr
    rw [if_neg hf]
    omega

/-- A quotient that is a whole number. -/
theorem shr_whole {f t : Nat} (hf : f ≠ 0) (ht : t ≠ 0) (h1 : f * t < 1099511627776) (h2 : t < 9007199254740992) : shr (f * t) t = rungOf f 0 := by
  have h0 : f * t ≠ 0 := Nat.mul_ne_zero hf ht
  have hl : (f * t).log2 ≤ 39 := log2_le_of h0 (show f * t < 2 ^ (39 + 1) by omega)
  have a := quo_le (f := f * t) (t := t) (K := f) (S := 0) h0 ht (by omega) h2 hf (by omega) (by omega) (by omega)
  have b := quo_ge (f := f * t) (t := t) (K := f) (S := 0) h0 ht (by omega) h2 hf (by omega) (by omega) (by omega)
  simp only [Int.ofNat_zero, Int.neg_zero] at a b
  unfold shr
  rw [if_neg h0]
  exact Nat.le_antisymm a b

theorem one_bits : rungOf 1 0 = 4607182418800017408 := by decide

theorem shr_one {t : Nat} (ht : t ≠ 0) (h : t ≤ 1000000) : shr t t = 4607182418800017408 := by
  have := shr_whole (f := 1) (t := t) (by omega) ht (by omega) (by omega)
  rw [Nat.one_mul, one_bits] at this
  exact this

theorem eq_bits {r : Nat} (h : r < 9218868437227405312) : (FloatKind.f64.format.order r r == some .eq) = true := by
  show (double.order r r == some .eq) = true
  rw [order_pos h h, show compare r r = Ordering.eq by simp]; rfl

/-- by nothing -/
theorem share_inf {f : Nat} (hf : f ≠ 0) (h : f < 9007199254740992) : floatBits .quo .f64 (floatOfInt .f64 (f : Int)) (floatOfInt .f64 0) = some 9218868437227405312 := by
  rw [floatOfInt_pos hf h, floatOfInt_zero]
  show (((double.read (rungOf f 0)).quotient (double.fractionBits + 2) (double.read 0)).map double.write) = _
  have mf := mant_b hf h
  rw [read_zero, read_int hf h]
  unfold Datum.quotient
  simp only []
  rw [if_pos trivial, if_neg (by omega)]
  decide

theorem read_neg {r : Nat} (h0 : r ≠ 0) (h : r < 9218868437227405312) : ∃ m p, double.read (9223372036854775808 + r) = .number true m p ∧ m ≠ 0 := by
  unfold Format.read
  simp only [swD, binD, infD]
  rw [show (9223372036854775808 + r) % 9223372036854775808 = r by omega, show (9223372036854775808 + r) / 9223372036854775808 = 1 by omega]
  by_cases c : r < 4503599627370496
  · rw [if_pos c]; exact ⟨_, _, rfl, h0⟩
  · rw [if_neg c, if_pos h]; exact ⟨_, _, rfl, by omega⟩

theorem share_neginf {f : Nat} (hf : f ≠ 0) (h : f < 9007199254740992) : floatBits .quo .f64 (floatOfInt .f64 (-(f : Int))) (floatOfInt .f64 0) = some 18442240474082181120 := by
  have e : floatOfInt .f64 (-(f : Int)) = 9223372036854775808 + rungOf f 0 := by
    show double.nearest (decide (-(f : Int) < 0)) (-(f : Int)).natAbs 0 = _
    rw [show decide (-(f : Int) < 0) = true by simp; omega, Int.natAbs_neg, Int.natAbs_natCast, nearest_eq true hf, Nat.min_eq_left (Nat.le_of_lt (rung_int_lt hf h))]
    rfl
  have hlt := rung_int_lt hf h
  have hpos : rungOf f 0 ≠ 0 := by
    have := mant_b hf h
    rw [rung_int hf h]; omega
  obtain ⟨m, p, hr, hm⟩ := read_neg hpos hlt
  rw [e, floatOfInt_zero]
  show (((double.read _).quotient (double.fractionBits + 2) (double.read 0)).map double.write) = _
  rw [hr, read_zero]
  unfold Datum.quotient
  simp only []
  rw [if_pos trivial, if_neg hm]
  decide
end Go.Proofs.YtgcoodameahkbaaDoor.Fl
