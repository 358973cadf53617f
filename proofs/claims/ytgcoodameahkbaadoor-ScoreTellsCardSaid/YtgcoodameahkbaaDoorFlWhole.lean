/- The whole part of a number, and what Text asks of it. -/
import Derived.Test.YtgcoodameahkbaaDoorFlShare
namespace Go.Proofs.YtgcoodameahkbaaDoor.Fl
open Ieee

def cc : Nat := 1074
theorem cc_eq : cc = 1074 := rfl

/-- the word of a whole number -/
def intW (k : Nat) : Nat := if k = 0 then 0 else rungOf k 0
theorem floatOfInt_nat {k : Nat} (h : k < 9007199254740992) : floatOfInt .f64 (k : Int) = intW k := by
  unfold intW
  split
  · rename_i e; subst e; exact floatOfInt_zero
  · rename_i e; exact floatOfInt_pos e h
theorem rung_big : rungOf 1000000000 0 = 4741671816366391296 := by decide
theorem intW_lt {k : Nat} (h : k < 1000000000) : intW k < 4741671816366391296 := by
  unfold intW
  split
  · omega
  · rename_i e
    have := rung_lt (k1 := k) (k2 := 1000000000) (p := 0) e (by omega) h (by omega)
    rw [rung_big] at this
    exact this

theorem cut_zero (neg : Bool) (n d : Nat) : Toward.zero.cut neg n d = n / 2 ^ d := by
  unfold Toward.cut
  simp only [Nat.one_shiftLeft, Bool.toNat_false, Nat.add_zero]
  by_cases hd : d ≤ n.log2 + 2
  · rw [Nat.min_eq_left hd]
  · rw [Nat.min_eq_right (by omega)]
    have hlt : n < 2 ^ (n.log2 + 1) := Nat.lt_log2_self
    have hp : 2 ^ (n.log2 + 1) ≤ 2 ^ (n.log2 + 2) := Nat.pow_le_pow_right (by omega) (by omega)
    have hq : 2 ^ (n.log2 + 2) ≤ 2 ^ d := Nat.pow_le_pow_right (by omega) (by omega)
    rw [Nat.div_eq_of_lt (by omega), Nat.div_eq_of_lt (by omega)]

/-- A word, and the whole part of its value: n units of 1 stand in it. -/
theorem whole_of {r n : Nat} (hr : r < 9218868437227405312) (h1 : n * 2 ^ cc ≤ V r) (h2 : V r < (n + 1) * 2 ^ cc) :
    ∃ m i, double.read r = .number false m i ∧ Toward.zero.cut false (m <<< i.toNat) (-i).toNat = n := by
  obtain ⟨m, a, hread, hv⟩ := read_pos hr
  refine ⟨m, _, hread, ?_⟩
  rw [cut_zero, Nat.shiftLeft_eq]
  rw [← hv] at h1 h2
  have hc := cc_eq
  generalize cc = c at hc h1 h2
  by_cases ha : c ≤ a
  · rw [show (-((a : Int) - 1074)).toNat = 0 by omega, show ((a : Int) - 1074).toNat = a - c by omega, Nat.pow_zero, Nat.div_one]
    have e : 2 ^ a = 2 ^ (a - c) * 2 ^ c := by rw [← Nat.pow_add]; congr 1; omega
    rw [e, ← Nat.mul_assoc] at h1 h2
    have := Nat.le_of_mul_le_mul_right h1 (Nat.two_pow_pos _)
    have := Nat.lt_of_mul_lt_mul_right h2
    omega
  · rw [show (-((a : Int) - 1074)).toNat = c - a by omega, show ((a : Int) - 1074).toNat = 0 by omega, Nat.pow_zero, Nat.mul_one]
    have e : 2 ^ c = 2 ^ (c - a) * 2 ^ a := by rw [← Nat.pow_add]; congr 1; omega
    rw [e, ← Nat.mul_assoc] at h1 h2
    have h3 := Nat.le_of_mul_le_mul_right h1 (Nat.two_pow_pos _)
    have h4 := Nat.lt_of_mul_lt_mul_right h2
    exact Nat.div_eq_of_lt_le h3 h4

/-- What Text asks of a number whose whole part is n. -/
theorem text_facts {r n : Nat} (hn : n < 1000000000) (h1 : n * 2 ^ cc ≤ V r) (h2 : V r < (n + 1) * 2 ^ cc) (hr : r < 4741671816366391297) :
    nanB r = false ∧ absB r = r ∧ (FloatKind.f64.format.order r 9218868437227405311 == some .gt) = false ∧ (∀ s t, FloatKind.f64.decode r ≠ .nan s t) ∧ truncB r = intW n ∧
      floatToIntVal .f64 (intW n) .i64 = some (n : Int) ∧ (FloatKind.f64.format.order (intW n) 4845873199050653696 == some .gt || FloatKind.f64.format.order (intW n) 4845873199050653696 == some .eq) = false := by
  have hf : r < 9218868437227405312 := by omega
  obtain ⟨m, i, hread, hcut⟩ := whole_of hf h1 h2
  have hw := intW_lt hn
  have wV : V (intW n) = n * 2 ^ cc := by
    unfold intW
    split
    · rename_i e; subst e; rw [Nat.zero_mul]; decide
    · rename_i e
      rw [V_exact e (by omega) (by omega), show ((0 : Int) + 1074).toNat = cc from rfl]
  have hwv1 : n * 2 ^ cc ≤ V (intW n) := by rw [wV]; exact Nat.le_refl _
  have hwv2 : V (intW n) < (n + 1) * 2 ^ cc := by rw [wV]; exact Nat.mul_lt_mul_of_pos_right (by omega) (Nat.two_pow_pos _)
  obtain ⟨m', i', hread', hcut'⟩ := whole_of (show intW n < 9218868437227405312 by omega) hwv1 hwv2
  refine ⟨nan_fin hf, Nat.mod_eq_of_lt (by omega), ?_, ?_, ?_, ?_, ?_⟩
  · show (double.order r 9218868437227405311 == some .gt) = false
    rw [order_pos hf (by omega), Nat.compare_eq_lt.2 (by omega)]; rfl
  · intro s t hc
    have : double.read r = .nan s t := hc
    rw [hread] at this
    cases this
  · show double.write ((double.read r).integral .zero) = _
    rw [hread]
    unfold Datum.integral
    simp only []
    rw [hcut]
    show double.nearest false n 0 = _
    unfold intW
    split
    · rename_i e; subst e; rfl
    · rename_i e
      rw [nearest_eq false e, Nat.min_eq_left (Nat.le_of_lt (rung_int_lt e (by omega)))]; rfl
  · unfold floatToIntVal
    have e : (FloatKind.f64.decode (intW n)).toInt .zero = some (n : Int) := by
      show (double.read (intW n)).toInt .zero = _
      rw [hread']
      unfold Datum.toInt Datum.integral
      simp only []
      rw [hcut']
      simp [signed]
    rw [e]
    simp only []
    rw [if_pos]
    simp only [IntKind.min, IntKind.max, IntKind.signed, IntKind.bits]
    omega
  · show (double.order (intW n) 4845873199050653696 == some .gt || double.order (intW n) 4845873199050653696 == some .eq) = false
    rw [order_pos (by omega) (by omega), Nat.compare_eq_lt.2 (by omega)]; rfl

theorem intW_V {n : Nat} (hn : n < 1000000000) : V (intW n) = n * 2 ^ cc := by
  unfold intW
  split
  · rename_i e; subst e; rw [Nat.zero_mul]; decide
  · rename_i e
    rw [V_exact e (by omega) (by omega), show ((0 : Int) + 1074).toNat = cc from rfl]
theorem text_facts_int {n : Nat} (hn : n < 1000000000) :
    nanB (intW n) = false ∧ absB (intW n) = intW n ∧ (FloatKind.f64.format.order (intW n) 9218868437227405311 == some .gt) = false ∧ (∀ s t, FloatKind.f64.decode (intW n) ≠ .nan s t) ∧ truncB (intW n) = intW n ∧
      floatToIntVal .f64 (intW n) .i64 = some (n : Int) ∧ (FloatKind.f64.format.order (intW n) 4845873199050653696 == some .gt || FloatKind.f64.format.order (intW n) 4845873199050653696 == some .eq) = false :=
  text_facts hn (by rw [intW_V hn]; exact Nat.le_refl _) (by rw [intW_V hn]; exact Nat.mul_lt_mul_of_pos_right (by omega) (Nat.two_pow_pos _)) (by have := intW_lt hn; omega)
end Go.Proofs.YtgcoodameahkbaaDoor.Fl
