/- Words that are not negative: their values, and that their order is the words' own. -/
import Derived.Test.YtgcoodameahkbaaDoorFlRound
namespace Go.Proofs.YtgcoodameahkbaaDoor.Fl
open Ieee

/-! Words that are not negative: their values, their order. -/

/-- the value of a rung, in units of 2 ^ (-1074) -/
def V (r : Nat) : Nat := if r < 4503599627370496 then r else (4503599627370496 + r % 4503599627370496) * 2 ^ (r / 4503599627370496 - 1)

theorem read_pos {r : Nat} (h : r < 9218868437227405312) : ∃ (m : Nat) (a : Nat), double.read r = .number false m ((a : Int) - 1074) ∧ m * 2 ^ a = V r := by
  unfold Format.read V
  simp only [swD, binD, infD, leastD]
  rw [Nat.mod_eq_of_lt (show r < 9223372036854775808 by omega), Nat.div_eq_of_lt (show r < 9223372036854775808 by omega)]
  by_cases c : r < 4503599627370496
  · rw [if_pos c, if_pos c]
    exact ⟨r, 0, by simp, by simp⟩
  · rw [if_neg c, if_neg c, if_pos h]
    refine ⟨4503599627370496 + r % 4503599627370496, r / 4503599627370496 - 1, ?_, rfl⟩
    have e : (-1074 : Int) + ((r / 4503599627370496 - 1 : Nat) : Int) = ((r / 4503599627370496 - 1 : Nat) : Int) - 1074 := by omega
    rw [e]
    simp

theorem V_step (r : Nat) : V r < V (r + 1) := by
  unfold V
  by_cases c1 : r + 1 < 4503599627370496
  · rw [if_pos (by omega), if_pos c1]; omega
  · by_cases c : r < 4503599627370496
    · obtain rfl : r = 4503599627370495 := by omega
      decide
    · rw [if_neg c, if_neg c1]
      by_cases c2 : r % 4503599627370496 + 1 < 4503599627370496
      · have e1 : (r + 1) / 4503599627370496 = r / 4503599627370496 := by omega
        have e2 : (r + 1) % 4503599627370496 = r % 4503599627370496 + 1 := by omega
        rw [e1, e2]
        exact Nat.mul_lt_mul_of_pos_right (by omega) (Nat.two_pow_pos _)
      · have e1 : (r + 1) / 4503599627370496 - 1 = r / 4503599627370496 - 1 + 1 := by omega
        have e2 : (r + 1) % 4503599627370496 = 0 := by omega
        rw [e1, e2, Nat.pow_succ, Nat.add_zero]
        have h1 : 0 < 2 ^ (r / 4503599627370496 - 1) := Nat.two_pow_pos _
        calc (4503599627370496 + r % 4503599627370496) * 2 ^ (r / 4503599627370496 - 1) < (4503599627370496 * 2) * 2 ^ (r / 4503599627370496 - 1) := Nat.mul_lt_mul_of_pos_right (by omega) h1
          _ = 4503599627370496 * (2 ^ (r / 4503599627370496 - 1) * 2) := by rw [Nat.mul_assoc, Nat.mul_comm 2]

theorem V_lt {r s : Nat} (h : r < s) : V r < V s := by
  induction s with
  | zero => omega
  | succ s ih =>
    by_cases e : r = s
    · rw [e]; exact V_step s
    · exact Nat.lt_trans (ih (by omega)) (V_step s)
theorem V_le {r s : Nat} (h : r ≤ s) : V r ≤ V s := by
  by_cases e : r = s
  · rw [e]; exact Nat.le_refl _
  · exact Nat.le_of_lt (V_lt (by omega))
theorem lt_of_V {r s : Nat} (h : V r < V s) : r < s := by
  by_cases c : r < s
  · exact c
  · have := V_le (show s ≤ r by omega); omega

theorem compare_scale {a b k : Nat} (hk : 0 < k) : compare ((a * k : Nat) : Int) ((b * k : Nat) : Int) = compare a b := by
  rcases Nat.lt_trichotomy a b with h | h | h
  · have := Nat.mul_lt_mul_of_pos_right h hk
    rw [Nat.compare_eq_lt.2 h]; exact Int.compare_eq_lt.2 (by omega)
  · subst h; simp
  · have := Nat.mul_lt_mul_of_pos_right h hk
    rw [Nat.compare_eq_gt.2 h]; exact Int.compare_eq_gt.2 (by omega)

/-- Two words that are no infinities, not negative: their order is that of the words. -/
theorem order_pos {r s : Nat} (hr : r < 9218868437227405312) (hs : s < 9218868437227405312) : double.order r s = some (compare r s) := by
  obtain ⟨m, a, h1, v1⟩ := read_pos hr
  obtain ⟨n, b, h2, v2⟩ := read_pos hs
  unfold Format.order
  rw [h1, h2]
  show some (compare (signed false m _) (signed false n _)) = _
  congr 1
  have key : ∃ k, 0 < k ∧ V r = m <<< ((a : Int) - 1074 - min ((a : Int) - 1074) ((b : Int) - 1074)).toNat * k ∧ V s = n <<< ((b : Int) - 1074 - min ((a : Int) - 1074) ((b : Int) - 1074)).toNat * k := by
    by_cases c : a ≤ b
    · refine ⟨2 ^ a, Nat.two_pow_pos _, ?_, ?_⟩
      · rw [show ((a : Int) - 1074 - min ((a : Int) - 1074) ((b : Int) - 1074)).toNat = 0 by omega, Nat.shiftLeft_zero, v1]
      · rw [show ((b : Int) - 1074 - min ((a : Int) - 1074) ((b : Int) - 1074)).toNat = b - a by omega, Nat.shiftLeft_eq, Nat.mul_assoc, ← Nat.pow_add, show b - a + a = b by omega, v2]
    · refine ⟨2 ^ b, Nat.two_pow_pos _, ?_, ?_⟩
      · rw [show ((a : Int) - 1074 - min ((a : Int) - 1074) ((b : Int) - 1074)).toNat = a - b by omega, Nat.shiftLeft_eq, Nat.mul_assoc, ← Nat.pow_add, show a - b + b = a by omega, v1]
      · rw [show ((b : Int) - 1074 - min ((a : Int) - 1074) ((b : Int) - 1074)).toNat = 0 by omega, Nat.shiftLeft_zero, v2]
  obtain ⟨k, hk, k1, k2⟩ := key
  simp only [signed, Bool.false_eq_true, if_false]
  generalize m <<< ((a : Int) - 1074 - min ((a : Int) - 1074) ((b : Int) - 1074)).toNat = x at k1 ⊢
  generalize n <<< ((b : Int) - 1074 - min ((a : Int) - 1074) ((b : Int) - 1074)).toNat = y at k2 ⊢
  have e1 : compare (x : Int) (y : Int) = compare x y := by simpa using compare_scale (a := x) (b := y) (k := 1) (by omega)
  rw [e1]
  rcases Nat.lt_trichotomy r s with h | h | h
  · have := V_lt h
    rw [k1, k2] at this
    rw [Nat.compare_eq_lt.2 h]; exact Nat.compare_eq_lt.2 (Nat.lt_of_mul_lt_mul_right this)
  · subst h
    have : x = y := Nat.eq_of_mul_eq_mul_right hk (k1.symm.trans k2)
    rw [this]; simp
  · have := V_lt h
    rw [k1, k2] at this
    rw [Nat.compare_eq_gt.2 h]; exact Nat.compare_eq_gt.2 (Nat.lt_of_mul_lt_mul_right this)

/-- A number of at most 53 digits is exact. -/
theorem V_exact {k : Nat} {p : Int} (hk : k ≠ 0) (h53 : k < 9007199254740992) (hp : -1074 ≤ p) : V (rungOf k p) = k * 2 ^ (p + 1074).toNat := by
  obtain ⟨a1, b1⟩ := log2_b hk
  have hlog : k.log2 ≤ 52 := by
    have : 2 ^ k.log2 < 2 ^ 53 := Nat.lt_of_le_of_lt a1 h53
    have := (Nat.pow_lt_pow_iff_right (by omega)).1 this
    omega
  have hl : lastOf k p ≤ p := by unfold lastOf; omega
  have hr : rungOf k p = (lastOf k p + 1074).toNat * 4503599627370496 + k * 2 ^ (p - lastOf k p).toNat := by
    unfold rungOf
    rw [show (lastOf k p - p).toNat = 0 by omega]
    unfold rnd
    simp [Nat.mod_one]
  rw [hr]
  have hn : k * 2 ^ (p - lastOf k p).toNat < 9007199254740992 := by
    have h1 : k * 2 ^ (p - lastOf k p).toNat < 2 ^ (k.log2 + 1) * 2 ^ (p - lastOf k p).toNat := Nat.mul_lt_mul_of_pos_right b1 (Nat.two_pow_pos _)
    rw [← Nat.pow_add] at h1
    refine Nat.lt_of_lt_of_le h1 (show 2 ^ _ ≤ 2 ^ 53 from Nat.pow_le_pow_right (by omega) ?_)
    unfold lastOf; omega
  by_cases c : lastOf k p = -1074
  · rw [c] at hn ⊢
    rw [show ((-1074 : Int) + 1074).toNat = 0 by omega, Nat.zero_mul, Nat.zero_add, show (p - -1074).toNat = (p + 1074).toNat by omega] at *
    unfold V
    generalize k * 2 ^ (p + 1074).toNat = n at hn ⊢
    by_cases c2 : n < 4503599627370496
    · rw [if_pos c2]
    · rw [if_neg c2, show n / 4503599627370496 - 1 = 0 by omega, Nat.pow_zero]; omega
  · have e : lastOf k p = p + k.log2 - 52 := by unfold lastOf at *; omega
    have hlo : 4503599627370496 ≤ k * 2 ^ (p - lastOf k p).toNat := by
      have h2 : 2 ^ k.log2 * 2 ^ (p - lastOf k p).toNat ≤ k * 2 ^ (p - lastOf k p).toNat := Nat.mul_le_mul_right _ a1
      rw [← Nat.pow_add] at h2
      have h3 : k.log2 + (p - lastOf k p).toNat = 52 := by omega
      rw [h3] at h2
      exact h2
    have hE : 1 ≤ (lastOf k p + 1074).toNat := by unfold lastOf at *; omega
    have hfin : k * 2 ^ (p - lastOf k p).toNat * 2 ^ (lastOf k p + 1074).toNat = k * 2 ^ (p + 1074).toNat := by
      rw [Nat.mul_assoc, ← Nat.pow_add]; congr 2; omega
    rw [← hfin]
    generalize k * 2 ^ (p - lastOf k p).toNat = n at hn hlo ⊢
    generalize (lastOf k p + 1074).toNat = E at hE ⊢
    unfold V
    rw [if_neg (by omega), show (E * 4503599627370496 + n) % 4503599627370496 = n - 4503599627370496 by omega, show (E * 4503599627370496 + n) / 4503599627370496 - 1 = E by omega, show 4503599627370496 + (n - 4503599627370496) = n by omega]

theorem rung_lt {k1 k2 : Nat} {p : Int} (h1 : k1 ≠ 0) (h2 : k2 < 9007199254740992) (h : k1 < k2) (hp : -1074 ≤ p) : rungOf k1 p < rungOf k2 p := by
  refine lt_of_V ?_
  rw [V_exact h1 (by omega) hp, V_exact (by omega) h2 hp]
  exact Nat.mul_lt_mul_of_pos_right h (Nat.two_pow_pos _)
end Go.Proofs.YtgcoodameahkbaaDoor.Fl
