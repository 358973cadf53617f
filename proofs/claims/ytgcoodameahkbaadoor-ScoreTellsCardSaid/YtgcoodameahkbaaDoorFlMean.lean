/- Sums and means of whole numbers; sums and quotients of what is no number. -/
import Derived.Test.YtgcoodameahkbaaDoorFlSum
namespace Go.Proofs.YtgcoodameahkbaaDoor.Fl
open Ieee

theorem add_int {a b : Nat} (h : a + b < 1000000000) : floatBits .add .f64 (intW a) (intW b) = some (intW (a + b)) := by
  have ha := intW_lt (k := a) (by omega)
  have hb := intW_lt (k := b) (by omega)
  obtain ⟨T, c, hv, hadd⟩ := add_pos (r := intW a) (s := intW b) (by omega) (by omega)
  rw [intW_V (by omega), intW_V (by omega), ← Nat.add_mul] at hv
  rw [hadd]
  by_cases hz : a + b = 0
  · rw [hz, Nat.zero_mul] at hv
    have hT : T = 0 := by
      rcases Nat.mul_eq_zero.1 hv with h | h
      · exact h
      · exact absurd h (by have := Nat.two_pow_pos c; omega)
    subst hT
    rw [hz]
    unfold Format.nearest intW
    rw [if_pos rfl, if_pos rfl]; rfl
  · have hT : T ≠ 0 := by
      intro h0
      subst h0
      rw [Nat.zero_mul] at hv
      have := Nat.mul_pos (show 0 < a + b by omega) (Nat.two_pow_pos cc)
      omega
    have e : rungOf T ((c : Int) - 1074) = rungOf (a + b) 0 := by
      refine Nat.le_antisymm ?_ ?_
      · refine rung_mono (c := cc) hT hz (by rw [cc_eq]; omega) (by omega) (by rw [cc_eq]; omega) ?_
        rw [show ((c : Int) - 1074 + (cc : Nat)).toNat = c by rw [cc_eq]; omega, hv, show ((0 : Int) + (cc : Nat)).toNat = cc by omega]
        exact Nat.le_refl _
      · refine rung_mono (c := cc) hz hT (by omega) (by rw [cc_eq]; omega) (by rw [cc_eq]; omega) ?_
        rw [show ((c : Int) - 1074 + (cc : Nat)).toNat = c by rw [cc_eq]; omega, hv, show ((0 : Int) + (cc : Nat)).toNat = cc by omega]
        exact Nat.le_refl _
    rw [nearest_pos hT _ (by rw [e]; exact rung_int_lt hz (by omega)), e]
    unfold intW
    rw [if_neg hz]

theorem read_of_nan {r : Nat} (h : nanB r = true) : ∃ s t, double.read r = .nan s t := by
  unfold nanB at h
  cases hr : double.read r with
  | nan s t => exact ⟨s, t, rfl⟩
  | number s m p =>
    exfalso
    have : FloatKind.f64.format.order r r = some .eq := by
      show double.order r r = _
      unfold Format.order
      rw [hr]
      simp [Datum.order]
    rw [this] at h
    exact absurd h (by decide)
  | infinity s =>
    exfalso
    have : FloatKind.f64.format.order r r = some .eq := by
      show double.order r r = _
      unfold Format.order
      rw [hr]
      simp [Datum.order]
    rw [this] at h
    exact absurd h (by decide)

theorem add_nan {a r : Nat} (h : nanB r = true) : floatBits .add .f64 a r = none := by
  obtain ⟨s, t, hr⟩ := read_of_nan h
  show ((double.read a).sum (double.read r)).map double.write = none
  rw [hr]
  cases double.read a <;> rfl

theorem quo_nan {a r : Nat} (h : nanB r = true) : floatBits .quo .f64 r a = none := by
  obtain ⟨s, t, hr⟩ := read_of_nan h
  show ((double.read r).quotient _ (double.read a)).map double.write = none
  rw [hr]
  cases double.read a <;> rfl

/-- the mean lies between -/
theorem mean_ge {S n lo : Nat} (hn : n ≠ 0) (hn2 : n ≤ 30) (hS : S < 100000) (h : lo * n ≤ S) : intW lo ≤ shr S n := by
  unfold intW
  split
  · omega
  · rename_i h0
    have hS0 : S ≠ 0 := by
      intro e
      have : lo * n ≠ 0 := Nat.mul_ne_zero h0 hn
      omega
    have := quo_ge (f := S) (t := n) (K := lo) (S := 0) hS0 hn (by omega) (by omega) h0 (by have := log2_lt53 hS0 (by omega); omega) (by omega) (by omega)
    simp only [Int.ofNat_zero, Int.neg_zero] at this
    unfold shr
    rw [if_neg hS0]
    exact this
theorem mean_le {S n hi : Nat} (hn : n ≠ 0) (hn2 : n ≤ 30) (hS : S < 100000) (h : S ≤ hi * n) : shr S n ≤ intW hi := by
  unfold shr
  split
  · omega
  · rename_i hS0
    have h0 : hi ≠ 0 := by
      intro e
      rw [e, Nat.zero_mul] at h
      omega
    have := quo_le (f := S) (t := n) (K := hi) (S := 0) hS0 hn (by omega) (by omega) h0 (by have := log2_lt53 hS0 (by omega); omega) (by omega) (by omega)
    simp only [Int.ofNat_zero, Int.neg_zero] at this
    unfold intW
    rw [if_neg h0]
    exact this
theorem mean_same {n v : Nat} (hn : n ≠ 0) (hn2 : n ≤ 30) (hv : v < 1000) : shr (v * n) n = intW v := by
  by_cases h0 : v = 0
  · subst h0; simp [shr, intW]
  · have : v * n ≤ 1000 * 30 := Nat.mul_le_mul (by omega) hn2
    rw [shr_whole h0 hn (by omega) (by omega)]
    unfold intW
    rw [if_neg h0]
end Go.Proofs.YtgcoodameahkbaaDoor.Fl
