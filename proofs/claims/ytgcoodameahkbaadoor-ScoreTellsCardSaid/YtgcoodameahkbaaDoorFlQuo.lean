/- A quotient of two whole numbers stands above, or below, what is told with fewer digits, as it should. -/
import Derived.Test.YtgcoodameahkbaaDoorFlInt
namespace Go.Proofs.YtgcoodameahkbaaDoor.Fl
open Ieee
theorem sticky {D T Z : Nat} (hT : 0 < T) (hq : D ≤ Z * T) : 2 * (D / T) + (D % T != 0).toNat ≤ 2 * Z := by
  have h1 : D / T ≤ Z := Nat.div_le_of_le_mul (by rw [Nat.mul_comm]; exact hq)
  by_cases c : D % T = 0
  · have e : (D % T != 0) = false := by simp [c]
    rw [e, Bool.toNat_false]; omega
  · have h2 : D / T < Z := by
      rw [Nat.div_lt_iff_lt_mul hT]
      by_cases c2 : D = Z * T
      · rw [c2, Nat.mul_mod_left] at c; exact absurd rfl c
      · omega
    have e : (D % T != 0) = true := by simp [c]
    rw [e, Bool.toNat_true]; omega
theorem two_exp (K : Nat) {x e y : Nat} (h : x = 1 + e + y) : K * 2 ^ x = 2 * (K * 2 ^ e) * 2 ^ y := by
  rw [h, Nat.pow_add, Nat.pow_add, Nat.pow_one, ← Nat.mul_assoc, ← Nat.mul_assoc, Nat.mul_comm K 2, Nat.mul_assoc 2 K]

/-- A quotient stands above, or below, what is told with fewer digits, as it should. -/
theorem quo_ge {f t K S : Nat} (hf : f ≠ 0) (ht : t ≠ 0) (h1 : f < 9007199254740992) (h2 : t < 9007199254740992) (hK : K ≠ 0) (hS : S + f.log2 ≤ 54 + t.log2) (hS2 : S ≤ 60) (h : K * t ≤ f * 2 ^ S) :
    rungOf K (-(S : Int)) ≤ rungOf (quoM f t) (quoP f t) := by
  have lf := log2_lt53 hf h1
  have lt := log2_lt53 ht h2
  have mt := mant_b ht h2
  have hq : K * 2 ^ (54 + t.log2 - f.log2 - S) ≤ f * 2 ^ (52 - f.log2) * 2 ^ 54 / (t * 2 ^ (52 - t.log2)) := by
    rw [Nat.le_div_iff_mul_le (by omega)]
    calc K * 2 ^ (54 + t.log2 - f.log2 - S) * (t * 2 ^ (52 - t.log2)) = K * t * (2 ^ (54 + t.log2 - f.log2 - S) * 2 ^ (52 - t.log2)) := by rw [Nat.mul_mul_mul_comm]
      _ = K * t * 2 ^ (106 - f.log2 - S) := by rw [← Nat.pow_add]; congr 2; omega
      _ ≤ f * 2 ^ S * 2 ^ (106 - f.log2 - S) := Nat.mul_le_mul_right _ h
      _ = f * 2 ^ (52 - f.log2) * 2 ^ 54 := by rw [Nat.mul_assoc, Nat.mul_assoc, ← Nat.pow_add, ← Nat.pow_add]; congr 2; omega
  have h3 : 2 * (K * 2 ^ (54 + t.log2 - f.log2 - S)) ≤ quoM f t := by unfold quoM; omega
  obtain ⟨c, hc⟩ : ∃ c : Nat, c = 1300 := ⟨_, rfl⟩
  refine rung_mono (c := c) hK (quoM_pos hf ht h1 h2) (by omega) (by unfold quoP; omega) (by omega) ?_
  rw [two_exp K (e := 54 + t.log2 - f.log2 - S) (show (-(S : Int) + c).toNat = 1 + (54 + t.log2 - f.log2 - S) + (quoP f t + c).toNat by unfold quoP; omega)]
  exact Nat.mul_le_mul_right _ h3

theorem quo_le {f t K S : Nat} (hf : f ≠ 0) (ht : t ≠ 0) (h1 : f < 9007199254740992) (h2 : t < 9007199254740992) (hK : K ≠ 0) (hS : S + f.log2 ≤ 54 + t.log2) (hS2 : S ≤ 60) (h : f * 2 ^ S ≤ K * t) :
    rungOf (quoM f t) (quoP f t) ≤ rungOf K (-(S : Int)) := by
  have lf := log2_lt53 hf h1
  have lt := log2_lt53 ht h2
  have mt := mant_b ht h2
  have hq : f * 2 ^ (52 - f.log2) * 2 ^ 54 ≤ K * 2 ^ (54 + t.log2 - f.log2 - S) * (t * 2 ^ (52 - t.log2)) := by
    calc f * 2 ^ (52 - f.log2) * 2 ^ 54 = f * 2 ^ S * 2 ^ (106 - f.log2 - S) := by rw [Nat.mul_assoc, Nat.mul_assoc, ← Nat.pow_add, ← Nat.pow_add]; congr 2; omega
      _ ≤ K * t * 2 ^ (106 - f.log2 - S) := Nat.mul_le_mul_right _ h
      _ = K * t * (2 ^ (54 + t.log2 - f.log2 - S) * 2 ^ (52 - t.log2)) := by rw [← Nat.pow_add]; congr 2; omega
      _ = K * 2 ^ (54 + t.log2 - f.log2 - S) * (t * 2 ^ (52 - t.log2)) := by rw [Nat.mul_mul_mul_comm]
  have hT : 0 < t * 2 ^ (52 - t.log2) := by omega
  have h3 : quoM f t ≤ 2 * (K * 2 ^ (54 + t.log2 - f.log2 - S)) := sticky hT hq
  obtain ⟨c, hc⟩ : ∃ c : Nat, c = 1300 := ⟨_, rfl⟩
  refine rung_mono (c := c) (quoM_pos hf ht h1 h2) hK (by unfold quoP; omega) (by omega) (by omega) ?_
  rw [two_exp K (e := 54 + t.log2 - f.log2 - S) (show (-(S : Int) + c).toNat = 1 + (54 + t.log2 - f.log2 - S) + (quoP f t + c).toNat by unfold quoP; omega)]
  exact Nat.mul_le_mul_right _ h3
end Go.Proofs.YtgcoodameahkbaaDoor.Fl
