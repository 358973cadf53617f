/- Sums of numbers that are not negative, the other sign, a number times nothing. -/
import Derived.Test.YtgcoodameahkbaaDoorFlWhole
namespace Go.Proofs.YtgcoodameahkbaaDoor.Fl
open Ieee

/-- A sum of two numbers that are not negative. -/
theorem add_pos {r s : Nat} (hr : r < 9218868437227405312) (hs : s < 9218868437227405312) : ∃ T c : Nat, T * 2 ^ c = V r + V s ∧ floatBits .add .f64 r s = some (double.nearest false T ((c : Int) - 1074)) := by
  obtain ⟨m, a, h1, v1⟩ := read_pos hr
  obtain ⟨k, b, h2, v2⟩ := read_pos hs
  refine ⟨m * 2 ^ (a - min a b) + k * 2 ^ (b - min a b), min a b, ?_, ?_⟩
  · rw [Nat.add_mul, Nat.mul_assoc, Nat.mul_assoc, ← Nat.pow_add, ← Nat.pow_add, ← v1, ← v2]
    congr 3 <;> omega
  · show ((double.read r).sum (double.read s)).map double.write = _
    rw [h1, h2]
    unfold Datum.sum
    simp only []
    rw [show ((a : Int) - 1074 - min ((a : Int) - 1074) ((b : Int) - 1074)).toNat = a - min a b by omega, show ((b : Int) - 1074 - min ((a : Int) - 1074) ((b : Int) - 1074)).toNat = b - min a b by omega]
    simp only [signed, Bool.false_eq_true, if_false, Nat.shiftLeft_eq]
    generalize m * 2 ^ (a - min a b) = x
    generalize k * 2 ^ (b - min a b) = y
    rw [show min ((a : Int) - 1074) ((b : Int) - 1074) = ((min a b : Nat) : Int) - 1074 by omega]
    show some (double.nearest _ _ _) = _
    congr 2
    split
    · rfl
    · exact decide_eq_false (by omega)

theorem nearest_pos {T : Nat} (hT : T ≠ 0) (p : Int) (h : rungOf T p < 9218868437227405312) : double.nearest false T p = rungOf T p := by
  rw [nearest_eq false hT, Nat.min_eq_left (Nat.le_of_lt h)]; rfl

def cd : Nat := 1042
theorem cc_cd : cc = 32 + cd := rfl
theorem cd_eq : cd = 1042 := rfl

theorem thousand : intW 1000 = 4652007308841189376 := by decide

/-- n and some thousandths: the sum's whole part is n. -/
theorem sum_whole {n part : Nat} (hn : n < 1000000) (hp : part ≤ 998) : ∃ X, floatBits .add .f64 (intW n) (shr part 1000) = some X ∧ n * 2 ^ cc ≤ V X ∧ V X < (n + 1) * 2 ^ cc := by
  have hw := intW_lt (k := n) (by omega)
  have hs := shr_fin (f := part) (t := 1000) (by omega) (by omega) (by omega)
  obtain ⟨T, c, hv, hadd⟩ := add_pos (r := intW n) (s := shr part 1000) (by omega) hs
  have hVn : V (intW n) = n * 2 ^ cc := intW_V (by omega)
  have e42 : (2 : Nat) ^ cc = 2 ^ 32 * 2 ^ cd := by rw [cc_cd, Nat.pow_add]
  have hVp : V (shr part 1000) ≤ 4294967295 * 2 ^ cd := by
    by_cases h0 : part = 0
    · subst h0
      have : shr 0 1000 = 0 := by simp [shr]
      rw [this]
      show V 0 ≤ _
      have : V 0 = 0 := by decide
      omega
    · have h1 := quo_le (f := part) (t := 1000) (K := 4294967295) (S := 32) h0 (by omega) (by omega) (by omega) (by omega) (by have := log2_lt53 h0 (show part < 9007199254740992 by omega); have := log2_le_of (e := 9) h0 (by omega); omega) (by omega) (by omega)
      have h2 := V_le h1
      rw [V_exact (k := 4294967295) (p := -((32 : Nat) : Int)) (by omega) (by omega) (by omega), show (-((32 : Nat) : Int) + 1074).toNat = cd from rfl] at h2
      have h3 : shr part 1000 = rungOf (quoM part 1000) (quoP part 1000) := by unfold shr; rw [if_neg h0]
      rw [h3]
      exact h2
  by_cases hT : T = 0
  · subst hT
    refine ⟨0, ?_, ?_, ?_⟩
    · rw [hadd]; unfold Format.nearest; rw [if_pos rfl]; rfl
    · have : n * 2 ^ cc = 0 := by omega
      omega
    · have : V 0 = 0 := by decide
      rw [this]
      exact Nat.mul_pos (by omega) (Nat.two_pow_pos _)
  · have hup : rungOf T ((c : Int) - 1074) ≤ rungOf (n * 4294967296 + 4294967295) (-((32 : Nat) : Int)) := by
      refine rung_mono (c := cc) hT (by omega) (by rw [cc_eq]; omega) (by rw [cc_eq]; omega) (by rw [cc_eq]; omega) ?_
      rw [show ((c : Int) - 1074 + (cc : Nat)).toNat = c by rw [cc_eq]; omega, hv, hVn, e42, show (-((32 : Nat) : Int) + (cc : Nat)).toNat = cd by rw [cc_eq, cd_eq]; rfl, Nat.add_mul, ← Nat.mul_assoc]
      exact Nat.add_le_add_left hVp _
    have hVu : V (rungOf T ((c : Int) - 1074)) < (n + 1) * 2 ^ cc := by
      refine Nat.lt_of_le_of_lt (V_le hup) ?_
      rw [V_exact (by omega) (by omega) (by omega), e42, ← Nat.mul_assoc, show (-((32 : Nat) : Int) + 1074).toNat = cd from rfl]
      exact Nat.mul_lt_mul_of_pos_right (by omega) (Nat.two_pow_pos _)
    have hfin : rungOf T ((c : Int) - 1074) < 9218868437227405312 := by
      have h1 : V (rungOf T ((c : Int) - 1074)) < V (intW (n + 1)) := by rw [intW_V (by omega)]; exact hVu
      have := lt_of_V h1
      have := intW_lt (k := n + 1) (by omega)
      omega
    refine ⟨rungOf T ((c : Int) - 1074), by rw [hadd, nearest_pos hT _ hfin], ?_, hVu⟩
    by_cases h0 : n = 0
    · subst h0; rw [Nat.zero_mul]; omega
    · have hlo : rungOf n 0 ≤ rungOf T ((c : Int) - 1074) := by
        refine rung_mono (c := cc) h0 hT (by omega) (by rw [cc_eq]; omega) (by rw [cc_eq]; omega) ?_
        rw [show ((c : Int) - 1074 + (cc : Nat)).toNat = c by rw [cc_eq]; omega, hv, hVn, show ((0 : Int) + (cc : Nat)).toNat = cc by omega]
        exact Nat.le_add_right _ _
      have := V_le hlo
      rw [V_exact h0 (by omega) (by omega), show ((0 : Int) + 1074).toNat = cc from rfl] at this
      exact this

theorem xor_sign {X : Nat} (h : X < 9223372036854775808) : X ^^^ 9223372036854775808 = 9223372036854775808 + X := by
  have e : 9223372036854775808 + X = 2 ^ 63 * 1 ||| X := by
    rw [← Nat.two_pow_add_eq_or_of_lt (show X < 2 ^ 63 from h)]
  rw [e]
  apply Nat.eq_of_testBit_eq
  intro i
  rw [Nat.testBit_xor, Nat.testBit_or, show (9223372036854775808 : Nat) = 2 ^ 63 by rfl, Nat.mul_one, Nat.testBit_two_pow]
  by_cases hi : 63 = i
  · subst hi
    rw [Nat.testBit_lt_two_pow (show X < 2 ^ 63 from h)]
    simp
  · simp [hi]

theorem or_sign {X : Nat} (h : X < 9223372036854775808) : X ||| 9223372036854775808 = 9223372036854775808 + X := by
  have e : 9223372036854775808 + X = 2 ^ 63 * 1 ||| X := by
    rw [← Nat.two_pow_add_eq_or_of_lt (show X < 2 ^ 63 from h)]
  rw [e, Nat.or_comm]

theorem nan_neg {r : Nat} (h : r < 9218868437227405312) : nanB (9223372036854775808 + r) = false := by
  unfold nanB
  have hr : ∃ m p, double.read (9223372036854775808 + r) = .number true m p := by
    unfold Format.read
    simp only [swD, binD, infD]
    rw [show (9223372036854775808 + r) % 9223372036854775808 = r by omega, show (9223372036854775808 + r) / 9223372036854775808 = 1 by omega]
    by_cases c : r < 4503599627370496
    · rw [if_pos c]; exact ⟨_, _, rfl⟩
    · rw [if_neg c, if_pos h]; exact ⟨_, _, rfl⟩
  obtain ⟨m, p, hr⟩ := hr
  show (double.order (9223372036854775808 + r) (9223372036854775808 + r) != some .eq) = false
  unfold Format.order
  rw [hr]
  simp [Datum.order]

theorem mul_zero {r : Nat} (h : r < 9218868437227405312) : floatBits .mul .f64 r 0 = some 0 := by
  obtain ⟨m, a, h1, v1⟩ := read_pos h
  show ((double.read r).product (double.read 0)).map double.write = _
  rw [h1, read_zero]
  unfold Datum.product
  simp only [Nat.mul_zero, Bool.xor_false]
  show some (double.nearest _ _ _) = _
  unfold Format.nearest
  rw [if_pos rfl]
  rfl
end Go.Proofs.YtgcoodameahkbaaDoor.Fl
