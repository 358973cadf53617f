/- Rounding to nearest, ties to even, is monotone. -/
import Derived.Test.YtgcoodameahkbaaDoorFlWords
namespace Go.Proofs.YtgcoodameahkbaaDoor.Fl
open Ieee

/-! Rounding to nearest is monotone. -/

def rnd (n g : Nat) : Nat := n / g + (if g < 2 * (n % g) ∨ (g = 2 * (n % g) ∧ n / g % 2 = 1) then 1 else 0)

theorem rnd_le (n g : Nat) : rnd n g ≤ n / g + 1 := by unfold rnd; split <;> omega
theorem le_rnd (n g : Nat) : n / g ≤ rnd n g := by unfold rnd; omega

theorem rnd_mono {n n' g : Nat} (h : n ≤ n') : rnd n g ≤ rnd n' g := by
  have h1 : n / g ≤ n' / g := Nat.div_le_div_right h
  by_cases e : n / g = n' / g
  · have h2 := Nat.div_add_mod n g
    have h3 := Nat.div_add_mod n' g
    rw [e] at h2
    have h4 : n % g ≤ n' % g := by omega
    unfold rnd
    rw [e]
    split
    · rw [if_pos (by omega)]
      exact Nat.le_refl _
    · omega
  · have := rnd_le n g
    have := le_rnd n' g
    omega

theorem rnd_scale (n g k : Nat) (hk : 0 < k) : rnd (n * k) (g * k) = rnd n g := by
  unfold rnd
  rw [Nat.mul_div_mul_right n g hk, Nat.mul_mod_mul_right]
  congr 1
  have e1 : (g * k < 2 * (n % g * k)) ↔ (g < 2 * (n % g)) := by
    rw [← Nat.mul_assoc]
    exact Nat.mul_lt_mul_right hk
  have e2 : (g * k = 2 * (n % g * k)) ↔ (g = 2 * (n % g)) := by
    rw [← Nat.mul_assoc]
    exact Nat.mul_left_inj (by omega)
  simp only [e1, e2]

theorem rnd_frac {n1 g1 n2 g2 : Nat} (h1 : 0 < g1) (h2 : 0 < g2) (h : n1 * g2 ≤ n2 * g1) : rnd n1 g1 ≤ rnd n2 g2 := by
  rw [← rnd_scale n1 g1 g2 h2, ← rnd_scale n2 g2 g1 h1, Nat.mul_comm g2 g1]
  exact rnd_mono h

theorem cut_even (neg : Bool) (n d : Nat) : Toward.even.cut neg n d = rnd n (2 ^ d) := by
  unfold Toward.cut rnd
  simp only [Nat.one_shiftLeft]
  by_cases hd : d ≤ n.log2 + 2
  · rw [Nat.min_eq_left hd]
    congr 1
    by_cases h : 2 ^ d < 2 * (n % 2 ^ d) ∨ (2 ^ d = 2 * (n % 2 ^ d) ∧ n / 2 ^ d % 2 = 1)
    · rw [if_pos h]
      have : (decide (2 ^ d < 2 * (n % 2 ^ d)) || (2 ^ d == 2 * (n % 2 ^ d) && n / 2 ^ d % 2 == 1)) = true := by simpa using h
      rw [this]; rfl
    · rw [if_neg h]
      have : (decide (2 ^ d < 2 * (n % 2 ^ d)) || (2 ^ d == 2 * (n % 2 ^ d) && n / 2 ^ d % 2 == 1)) = false := by
        rw [Bool.eq_false_iff]; intro hc; exact h (by simpa using hc)
      rw [this]; rfl
  · rw [Nat.min_eq_right (by omega)]
    have hlt : n < 2 ^ (n.log2 + 1) := Nat.lt_log2_self
    have hp : 2 ^ (n.log2 + 2) = 2 * 2 ^ (n.log2 + 1) := by rw [Nat.pow_succ]; omega
    have hq : 2 ^ (n.log2 + 2) ≤ 2 ^ d := Nat.pow_le_pow_right (by omega) (by omega)
    have e1 : n / 2 ^ (n.log2 + 2) = 0 := Nat.div_eq_of_lt (by omega)
    have e2 : n % 2 ^ (n.log2 + 2) = n := Nat.mod_eq_of_lt (by omega)
    have e3 : n / 2 ^ d = 0 := Nat.div_eq_of_lt (by omega)
    have e4 : n % 2 ^ d = n := Nat.mod_eq_of_lt (by omega)
    rw [e1, e2, e3, e4, if_neg (by omega)]
    have : (decide (2 ^ (n.log2 + 2) < 2 * n) || (2 ^ (n.log2 + 2) == 2 * n && 0 % 2 == 1)) = false := by
      rw [Bool.eq_false_iff]; intro hc; simp at hc; omega
    rw [this]; rfl

def lastOf (m : Nat) (p : Int) : Int := max (p + m.log2 - 52) (-1074)
def rungOf (m : Nat) (p : Int) : Nat := (lastOf m p + 1074).toNat * 4503599627370496 + rnd (m * 2 ^ (p - lastOf m p).toNat) (2 ^ (lastOf m p - p).toNat)
theorem leastD : double.leastPlace = -1074 := by decide
theorem fracD : double.fractionBits = 52 := rfl
theorem binD : double.binade = 4503599627370496 := by decide
theorem infD : double.infRung = 9218868437227405312 := by decide
theorem swD : double.signWeight = 9223372036854775808 := by decide

theorem nearest_eq (neg : Bool) {m : Nat} (hm : m ≠ 0) (p : Int) : double.nearest neg m p = double.word neg (min (rungOf m p) 9218868437227405312) := by
  unfold Format.nearest
  rw [if_neg hm]
  simp only [cut_even, leastD, fracD, binD, infD, Nat.shiftLeft_eq]
  unfold rungOf lastOf
  congr 2

theorem log2_b {m : Nat} (hm : m ≠ 0) : 2 ^ m.log2 ≤ m ∧ m < 2 ^ (m.log2 + 1) := ⟨Nat.log2_self_le hm, Nat.lt_log2_self⟩

theorem pow_split {a b : Nat} (h : b ≤ a) : 2 ^ a = 2 ^ b * 2 ^ (a - b) := by rw [← Nat.pow_add]; congr 1; omega

theorem kept_lo {m : Nat} (hm : m ≠ 0) {p : Int} (h : lastOf m p = p + m.log2 - 52) : 4503599627370496 ≤ rnd (m * 2 ^ (p - lastOf m p).toNat) (2 ^ (lastOf m p - p).toNat) := by
  refine Nat.le_trans ?_ (le_rnd _ _)
  obtain ⟨h1, _⟩ := log2_b hm
  rw [Nat.le_div_iff_mul_le (Nat.two_pow_pos _), h]
  by_cases c : 52 ≤ m.log2
  · rw [show (p - (p + (m.log2 : Int) - 52)).toNat = 0 by omega, show (p + (m.log2 : Int) - 52 - p).toNat = m.log2 - 52 by omega, Nat.pow_zero, Nat.mul_one]
    have := pow_split c
    omega
  · rw [show (p + (m.log2 : Int) - 52 - p).toNat = 0 by omega, show (p - (p + (m.log2 : Int) - 52)).toNat = 52 - m.log2 by omega, Nat.pow_zero, Nat.mul_one]
    have := pow_split (show m.log2 ≤ 52 by omega)
    calc 4503599627370496 = 2 ^ 52 := rfl
      _ = 2 ^ m.log2 * 2 ^ (52 - m.log2) := this
      _ ≤ m * 2 ^ (52 - m.log2) := Nat.mul_le_mul_right _ h1

theorem kept_hi {m : Nat} (hm : m ≠ 0) {p : Int} : rnd (m * 2 ^ (p - lastOf m p).toNat) (2 ^ (lastOf m p - p).toNat) ≤ 9007199254740992 := by
  refine Nat.le_trans (rnd_le _ _) ?_
  obtain ⟨_, h2⟩ := log2_b hm
  have hl : p + m.log2 - 52 ≤ lastOf m p := by unfold lastOf; omega
  generalize lastOf m p = l at hl ⊢
  have : m * 2 ^ (p - l).toNat / 2 ^ (l - p).toNat < 9007199254740992 := by
    rw [Nat.div_lt_iff_lt_mul (Nat.two_pow_pos _)]
    have e : (9007199254740992 : Nat) = 2 ^ 53 := rfl
    rw [e, ← Nat.pow_add]
    by_cases c : p ≤ l
    · rw [show (p - l).toNat = 0 by omega, Nat.pow_zero, Nat.mul_one]
      exact Nat.lt_of_lt_of_le h2 (Nat.pow_le_pow_right (by omega) (by omega))
    · rw [show (l - p).toNat = 0 by omega]
      have h3 : m * 2 ^ (p - l).toNat < 2 ^ (m.log2 + 1) * 2 ^ (p - l).toNat := Nat.mul_lt_mul_of_pos_right h2 (Nat.two_pow_pos _)
      rw [← Nat.pow_add] at h3
      exact Nat.lt_of_lt_of_le h3 (Nat.pow_le_pow_right (by omega) (by omega))
  omega

/-- the value, in units of 2 ^ (-c) -/
theorem scaled {m : Nat} {p l : Int} {c : Nat} (h1 : 0 ≤ p + c) (h2 : 0 ≤ l + c) : m * 2 ^ (p - l).toNat * 2 ^ (l + c).toNat = m * 2 ^ (p + c).toNat * 2 ^ (l - p).toNat := by
  rw [Nat.mul_assoc, Nat.mul_assoc, ← Nat.pow_add, ← Nat.pow_add]
  congr 2
  omega

theorem rung_mono {m1 m2 : Nat} {p1 p2 : Int} {c : Nat} (hm1 : m1 ≠ 0) (hm2 : m2 ≠ 0) (h1 : 0 ≤ p1 + c) (h2 : 0 ≤ p2 + c) (hc : 1074 ≤ c)
    (h : m1 * 2 ^ (p1 + c).toNat ≤ m2 * 2 ^ (p2 + c).toNat) : rungOf m1 p1 ≤ rungOf m2 p2 := by
  obtain ⟨a1, b1⟩ := log2_b hm1
  obtain ⟨a2, b2⟩ := log2_b hm2
  have he : p1 + m1.log2 ≤ p2 + m2.log2 := by
    have h3 : 2 ^ (m1.log2 + (p1 + c).toNat) < 2 ^ (m2.log2 + 1 + (p2 + c).toNat) := by
      rw [Nat.pow_add, Nat.pow_add]
      calc 2 ^ m1.log2 * 2 ^ (p1 + c).toNat ≤ m1 * 2 ^ (p1 + c).toNat := Nat.mul_le_mul_right _ a1
        _ ≤ m2 * 2 ^ (p2 + c).toNat := h
        _ < 2 ^ (m2.log2 + 1) * 2 ^ (p2 + c).toNat := Nat.mul_lt_mul_of_pos_right b2 (Nat.two_pow_pos _)
    have := (Nat.pow_lt_pow_iff_right (by omega)).1 h3
    omega
  have hl : lastOf m1 p1 ≤ lastOf m2 p2 := by unfold lastOf; omega
  have hl1 : -1074 ≤ lastOf m1 p1 := by unfold lastOf; omega
  by_cases e : lastOf m1 p1 = lastOf m2 p2
  · unfold rungOf
    rw [e]
    refine Nat.add_le_add_left (rnd_frac (Nat.two_pow_pos _) (Nat.two_pow_pos _) ?_) _
    generalize lastOf m2 p2 = l at e
    have s1 := scaled (m := m1) (p := p1) (l := l) (c := c) h1 (by omega)
    have s2 := scaled (m := m2) (p := p2) (l := l) (c := c) h2 (by omega)
    have hk : 0 < 2 ^ (l + c).toNat := Nat.two_pow_pos _
    refine Nat.le_of_mul_le_mul_right ?_ hk
    calc m1 * 2 ^ (p1 - l).toNat * 2 ^ (l - p2).toNat * 2 ^ (l + c).toNat = (m1 * 2 ^ (p1 - l).toNat * 2 ^ (l + c).toNat) * 2 ^ (l - p2).toNat := Nat.mul_right_comm _ _ _
      _ = m1 * 2 ^ (p1 + c).toNat * 2 ^ (l - p1).toNat * 2 ^ (l - p2).toNat := by rw [s1]
      _ ≤ m2 * 2 ^ (p2 + c).toNat * 2 ^ (l - p1).toNat * 2 ^ (l - p2).toNat := Nat.mul_le_mul_right _ (Nat.mul_le_mul_right _ h)
      _ = (m2 * 2 ^ (p2 + c).toNat * 2 ^ (l - p2).toNat) * 2 ^ (l - p1).toNat := Nat.mul_right_comm _ _ _
      _ = (m2 * 2 ^ (p2 - l).toNat * 2 ^ (l + c).toNat) * 2 ^ (l - p1).toNat := by rw [s2]
      _ = m2 * 2 ^ (p2 - l).toNat * 2 ^ (l - p1).toNat * 2 ^ (l + c).toNat := Nat.mul_right_comm _ _ _
  · have k1 := kept_hi hm1 (p := p1)
    have k2 := kept_lo hm2 (p := p2) (by unfold lastOf at *; omega)
    unfold rungOf
    have : (lastOf m1 p1 + 1074).toNat + 1 ≤ (lastOf m2 p2 + 1074).toNat := by omega
    have := Nat.mul_le_mul_right 4503599627370496 this
    omega
end Go.Proofs.YtgcoodameahkbaaDoor.Fl
