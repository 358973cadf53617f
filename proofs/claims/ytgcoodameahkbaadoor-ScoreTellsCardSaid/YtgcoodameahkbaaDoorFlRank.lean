/- The order of all words that are numbers, by whole numbers; the rank of each word. -/
import Derived.Test.YtgcoodameahkbaaDoorFl2
import Derived.Test.YtgcoodameahkbaaDoorFlMean
namespace Go.Proofs.YtgcoodameahkbaaDoor.Fl
set_option linter.unusedVariables false
set_option linter.unusedSimpArgs false
open Ieee

/-! The order of all words that are numbers, by whole numbers. -/

/-- a word's magnitude with its sign -/
def sv (b : Nat) : Int := if 9223372036854775808 ≤ b then -((b : Int) - 9223372036854775808) else b
/-- a magnitude's value, beyond the infinite one too -/
theorem read_fin {b : Nat} (hb : b < 18446744073709551616) (h : b % 9223372036854775808 < 9218868437227405312) :
    ∃ (m a : Nat), double.read b = .number (decide (9223372036854775808 ≤ b)) m ((a : Int) - 1074) ∧ m * 2 ^ a = V (b % 9223372036854775808) := by
  have hneg : (b / 9223372036854775808 % 2 == 1) = decide (9223372036854775808 ≤ b) := by
    by_cases c : 9223372036854775808 ≤ b
    · rw [decide_eq_true c, show b / 9223372036854775808 % 2 = 1 by omega]; rfl
    · rw [decide_eq_false c, show b / 9223372036854775808 % 2 = 0 by omega]; rfl
  unfold Format.read V
  simp only [swD, binD, infD, leastD, hneg]
  generalize b % 9223372036854775808 = r at h ⊢
  by_cases c : r < 4503599627370496
  · rw [if_pos c, if_pos c]
    exact ⟨r, 0, by simp, by simp⟩
  · rw [if_neg c, if_neg c, if_pos h]
    refine ⟨4503599627370496 + r % 4503599627370496, r / 4503599627370496 - 1, ?_, rfl⟩
    have e : (-1074 : Int) + ((r / 4503599627370496 - 1 : Nat) : Int) = ((r / 4503599627370496 - 1 : Nat) : Int) - 1074 := by omega
    rw [e]
theorem read_inf {b : Nat} (hb : b < 18446744073709551616) (h : b % 9223372036854775808 = 9218868437227405312) : double.read b = .infinity (decide (9223372036854775808 ≤ b)) := by
  have hneg : (b / 9223372036854775808 % 2 == 1) = decide (9223372036854775808 ≤ b) := by
    by_cases c : 9223372036854775808 ≤ b
    · rw [decide_eq_true c, show b / 9223372036854775808 % 2 = 1 by omega]; rfl
    · rw [decide_eq_false c, show b / 9223372036854775808 % 2 = 0 by omega]; rfl
  unfold Format.read
  simp only [swD, binD, infD, leastD, hneg, h]
  rw [if_neg (by omega), if_neg (by omega), if_pos trivial]
theorem nan_iff {b : Nat} (hb : b < 18446744073709551616) : nanB b = true ↔ 9218868437227405312 < b % 9223372036854775808 := by
  constructor
  · intro h
    obtain ⟨s, t, hr⟩ := read_of_nan h
    rcases Nat.lt_trichotomy (b % 9223372036854775808) 9218868437227405312 with c | c | c
    · obtain ⟨m, a, h1, _⟩ := read_fin hb c
      rw [hr] at h1; cases h1
    · rw [read_inf hb c] at hr; cases hr
    · exact c
  · exact nan_of

theorem signed_scale (s : Bool) (m u k : Nat) : signed s m u * (k : Int) = if s then -((m * 2 ^ u * k : Nat) : Int) else ((m * 2 ^ u * k : Nat) : Int) := by
  unfold signed
  rw [Nat.shiftLeft_eq]
  cases s
  · simp
  · simp [Int.neg_mul]
theorem compare_int_scale {x y : Int} {k : Nat} (hk : 0 < k) : compare (x * k) (y * k) = compare x y := by
  have hk' : (0 : Int) < (k : Int) := by omega
  rcases Int.lt_trichotomy x y with h | h | h
  · rw [Int.compare_eq_lt.2 h]; exact Int.compare_eq_lt.2 (Int.mul_lt_mul_of_pos_right h hk')
  · subst h; simp
  · rw [Int.compare_eq_gt.2 h]; exact Int.compare_eq_gt.2 (Int.mul_lt_mul_of_pos_right h hk')

theorem V_zero : V 0 = 0 := by decide
theorem V_pos {r : Nat} (h : 0 < r) : 0 < V r := by have := V_lt h; rw [V_zero] at this; exact this

theorem cmp_same {x y x' y' : Int} (h1 : x < y ↔ x' < y') (h2 : y < x ↔ y' < x') : compare x y = compare x' y' := by
  rcases Int.lt_trichotomy x y with h | h | h
  · rw [Int.compare_eq_lt.2 h, Int.compare_eq_lt.2 (h1.1 h)]
  · rw [Int.compare_eq_eq.2 h, Int.compare_eq_eq.2 (by omega)]
  · rw [Int.compare_eq_gt.2 h, Int.compare_eq_gt.2 (h2.1 h)]

theorem cmp_V (s t : Bool) (r u : Nat) : compare (if s then -((V r : Nat) : Int) else ((V r : Nat) : Int)) (if t then -((V u : Nat) : Int) else ((V u : Nat) : Int)) = compare (if s then -(r : Int) else (r : Int)) (if t then -(u : Int) else (u : Int)) := by
  have h0 : ∀ r, (0 < r → 0 < V r) ∧ (r = 0 → V r = 0) := fun r => ⟨V_pos, fun h => by rw [h, V_zero]⟩
  have h1 : (r < u → V r < V u) ∧ (u < r → V u < V r) ∧ (r = u → V r = V u) := ⟨V_lt, V_lt, fun h => by rw [h]⟩
  have hr := h0 r
  have hu := h0 u
  clear h0
  generalize V r = x at *
  generalize V u = y at *
  refine cmp_same ?_ ?_
  · cases s <;> cases t <;> simp only [Bool.false_eq_true, if_false, if_true] <;> omega
  · cases s <;> cases t <;> simp only [Bool.false_eq_true, if_false, if_true] <;> omega

/-- The order of two words that are numbers: that of their signed magnitudes. -/
theorem order_sv {a b : Nat} (ha : a < 18446744073709551616) (hb : b < 18446744073709551616) (h1 : nanB a = false) (h2 : nanB b = false) : FloatKind.f64.format.order a b = some (compare (sv a) (sv b)) := by
  have g1 : a % 9223372036854775808 ≤ 9218868437227405312 := by
    have := mt (nan_iff ha).2 (by rw [h1]; decide); omega
  have g2 : b % 9223372036854775808 ≤ 9218868437227405312 := by
    have := mt (nan_iff hb).2 (by rw [h2]; decide); omega
  show double.order a b = _
  unfold Format.order sv
  by_cases c1 : a % 9223372036854775808 = 9218868437227405312
  · rw [read_inf ha c1]
    by_cases c2 : b % 9223372036854775808 = 9218868437227405312
    · rw [read_inf hb c2]
      simp only [Datum.order]
      by_cases s1 : 9223372036854775808 ≤ a <;> by_cases s2 : 9223372036854775808 ≤ b
      all_goals simp only [s1, s2, decide_true, decide_false, if_true, if_false, Bool.toNat_true, Bool.toNat_false]
      · rw [(Int.compare_eq_eq.2 (by omega) : compare _ _ = Ordering.eq)]; rfl
      · rw [(Int.compare_eq_lt.2 (by omega) : compare _ _ = Ordering.lt)]; rfl
      · rw [(Int.compare_eq_gt.2 (by omega) : compare _ _ = Ordering.gt)]; rfl
      · rw [(Int.compare_eq_eq.2 (by omega) : compare _ _ = Ordering.eq)]; rfl
    · obtain ⟨m, e, hr, _⟩ := read_fin hb (show b % 9223372036854775808 < 9218868437227405312 by omega)
      rw [hr]
      simp only [Datum.order]
      by_cases s1 : 9223372036854775808 ≤ a
      · simp only [s1, decide_true, if_true]
        rw [(Int.compare_eq_lt.2 (by split <;> omega) : compare _ _ = Ordering.lt)]
      · simp only [s1, decide_false, if_false, Bool.false_eq_true]
        rw [(Int.compare_eq_gt.2 (by split <;> omega) : compare _ _ = Ordering.gt)]
  · obtain ⟨m, e, hr, hv⟩ := read_fin ha (show a % 9223372036854775808 < 9218868437227405312 by omega)
    rw [hr]
    by_cases c2 : b % 9223372036854775808 = 9218868437227405312
    · rw [read_inf hb c2]
      simp only [Datum.order]
      by_cases s2 : 9223372036854775808 ≤ b
      · simp only [s2, decide_true, if_true]
        rw [(Int.compare_eq_gt.2 (by split <;> omega) : compare _ _ = Ordering.gt)]
      · simp only [s2, decide_false, if_false, Bool.false_eq_true]
        rw [(Int.compare_eq_lt.2 (by split <;> omega) : compare _ _ = Ordering.lt)]
    · obtain ⟨n, f, hr2, hv2⟩ := read_fin hb (show b % 9223372036854775808 < 9218868437227405312 by omega)
      rw [hr2]
      simp only [Datum.order]
      congr 1
      have key : ∃ k, 0 < k ∧ V (a % 9223372036854775808) = m * 2 ^ ((e : Int) - 1074 - min ((e : Int) - 1074) ((f : Int) - 1074)).toNat * k ∧ V (b % 9223372036854775808) = n * 2 ^ ((f : Int) - 1074 - min ((e : Int) - 1074) ((f : Int) - 1074)).toNat * k := by
        by_cases c : e ≤ f
        · refine ⟨2 ^ e, Nat.two_pow_pos _, ?_, ?_⟩
          · rw [show ((e : Int) - 1074 - min ((e : Int) - 1074) ((f : Int) - 1074)).toNat = 0 by omega, Nat.pow_zero, Nat.mul_one, hv]
          · rw [show ((f : Int) - 1074 - min ((e : Int) - 1074) ((f : Int) - 1074)).toNat = f - e by omega, Nat.mul_assoc, ← Nat.pow_add, show f - e + e = f by omega, hv2]
        · refine ⟨2 ^ f, Nat.two_pow_pos _, ?_, ?_⟩
          · rw [show ((e : Int) - 1074 - min ((e : Int) - 1074) ((f : Int) - 1074)).toNat = e - f by omega, Nat.mul_assoc, ← Nat.pow_add, show e - f + f = e by omega, hv]
          · rw [show ((f : Int) - 1074 - min ((e : Int) - 1074) ((f : Int) - 1074)).toNat = 0 by omega, Nat.pow_zero, Nat.mul_one, hv2]
      obtain ⟨k, hk, k1, k2⟩ := key
      rw [← compare_int_scale hk, signed_scale, signed_scale, ← k1, ← k2]
      have := cmp_V (decide (9223372036854775808 ≤ a)) (decide (9223372036854775808 ≤ b)) (a % 9223372036854775808) (b % 9223372036854775808)
      simp only [decide_eq_true_eq] at this ⊢
      rw [this]
      have q1 : (if 9223372036854775808 ≤ a then -((a % 9223372036854775808 : Nat) : Int) else ((a % 9223372036854775808 : Nat) : Int)) = if 9223372036854775808 ≤ a then -((a : Int) - 9223372036854775808) else a := by split <;> omega
      have q2 : (if 9223372036854775808 ≤ b then -((b % 9223372036854775808 : Nat) : Int) else ((b % 9223372036854775808 : Nat) : Int)) = if 9223372036854775808 ≤ b then -((b : Int) - 9223372036854775808) else b := by split <;> omega
      rw [q1, q2]

/-- Where a word stands among all. -/
def rank (b : Nat) : Int := if nanB b then -9223372036854775808 else if 9223372036854775808 ≤ b then 9223372036854775807 - b else b
theorem rank_bd {b : Nat} (hb : b < 18446744073709551616) : -9223372036854775808 ≤ rank b ∧ rank b ≤ 9223372036854775807 := by
  unfold rank
  cases h : nanB b
  · simp only [Bool.false_eq_true, if_false]; split <;> omega
  · simp only [if_true]; omega
theorem less_rank {a b : Nat} (ha : a < 18446744073709551616) (hb : b < 18446744073709551616) : lessB a b = true ↔ rank a < rank b := by
  unfold lessB rank
  cases h1 : nanB a <;> cases h2 : nanB b
  · simp only [Bool.or_self, Bool.false_eq_true, if_false]
    have z : nanB 0 = false := by have := mt (nan_iff (b := 0) (by omega)).1 (by omega); simpa using this
    have g1 : a % 9223372036854775808 ≤ 9218868437227405312 := by
      have := mt (nan_iff ha).2 (by rw [h1]; decide); omega
    have g2 : b % 9223372036854775808 ≤ 9218868437227405312 := by
      have := mt (nan_iff hb).2 (by rw [h2]; decide); omega
    unfold belowB
    rw [order_sv ha (by omega) h1 z, order_sv hb (by omega) h2 z, order_sv ha hb h1 h2]
    have e0 : sv 0 = 0 := rfl
    have b1 : ∀ x y : Int, (some (compare x y) == some Ordering.eq) = decide (x = y) := fun x y => by
      rcases Int.lt_trichotomy x y with h | h | h
      · rw [Int.compare_eq_lt.2 h, decide_eq_false (by omega)]; rfl
      · rw [Int.compare_eq_eq.2 h, decide_eq_true h]; rfl
      · rw [Int.compare_eq_gt.2 h, decide_eq_false (by omega)]; rfl
    have b2 : ∀ x y : Int, (some (compare x y) == some Ordering.lt) = decide (x < y) := fun x y => by
      rcases Int.lt_trichotomy x y with h | h | h
      · rw [Int.compare_eq_lt.2 h, decide_eq_true h]; rfl
      · rw [Int.compare_eq_eq.2 h, decide_eq_false (by omega)]; rfl
      · rw [Int.compare_eq_gt.2 h, decide_eq_false (by omega)]; rfl
    rw [b1, b1, b2, e0]
    by_cases hz : sv a = 0 ∧ sv b = 0
    · rw [decide_eq_true hz.1, decide_eq_true hz.2]
      obtain ⟨z1, z2⟩ := hz
      simp only [Bool.and_self, if_true]
      unfold sgnB
      unfold sv at z1 z2
      by_cases s1 : 9223372036854775808 ≤ a <;> by_cases s2 : 9223372036854775808 ≤ b
      all_goals simp only [s1, s2, decide_true, decide_false, if_true, if_false, Bool.not_true, Bool.not_false, Bool.and_true, Bool.and_false, Bool.false_eq_true, true_iff, false_iff] at z1 z2 ⊢
      all_goals omega
    · have : (decide (sv a = 0) && decide (sv b = 0)) = false := by
        rw [← Bool.decide_and, decide_eq_false hz]
      rw [this]
      simp only [Bool.false_eq_true, if_false, decide_eq_true_eq]
      unfold sv at hz ⊢
      by_cases s1 : 9223372036854775808 ≤ a <;> by_cases s2 : 9223372036854775808 ≤ b
      all_goals simp only [s1, s2, if_true, if_false] at hz ⊢
      all_goals omega
  · simp only [Bool.false_or, if_true, Bool.false_and, Bool.false_eq_true, if_false, false_iff]
    split <;> omega
  · simp only [Bool.true_or, if_true, Bool.not_false, Bool.and_self, Bool.false_eq_true, if_false, true_iff]
    have g2 : b % 9223372036854775808 ≤ 9218868437227405312 := by
      have := mt (nan_iff hb).2 (by rw [h2]; decide); omega
    split <;> omega
  · simp
theorem less_rank_false {a b : Nat} (ha : a < 18446744073709551616) (hb : b < 18446744073709551616) : lessB a b = false ↔ rank b ≤ rank a := by
  rw [← Bool.not_eq_true, less_rank ha hb]; omega
theorem alike_rank {a b : Nat} (ha : a < 18446744073709551616) (hb : b < 18446744073709551616) : alikeB a b = true ↔ rank a = rank b := by
  unfold alikeB
  rw [Bool.and_eq_true, Bool.not_eq_true', Bool.not_eq_true', less_rank_false ha hb, less_rank_false hb ha]
  omega
end Go.Proofs.YtgcoodameahkbaaDoor.Fl
