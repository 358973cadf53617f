/- What Mean answers of whole numbers. -/
import Derived.Test.YtgcoodameahkbaaDoorFl9
import Derived.Test.YtgcoodameahkbaaDoorFlMean
namespace Go.Proofs.YtgcoodameahkbaaDoor.Fl
open Go.RowKit

def sumTo (vs : List Nat) : Nat → Nat
  | 0 => 0
  | k + 1 => sumTo vs k + vs.getD k 0
theorem sumTo_le (vs : List Nat) (h : ∀ k, vs.getD k 0 < 1000) (k : Nat) : sumTo vs k ≤ k * 999 := by
  induction k with
  | zero => simp [sumTo]
  | succ k ih => unfold sumTo; have := h k; omega

set_option maxHeartbeats 1000000 in
theorem mean_int (b n c : Nat) (vs : List Nat) (w : World) (hn0 : n ≠ 0) (hn : n ≤ 30) (hcap : n ≤ c) (hcm : c ≤ maxLen) (hv : ∀ k, vs.getD k 0 < 1000)
    (hc : ∀ k, k < n → w.cell? ⟨b, k, none⟩ = some (.float .f64 (intW (vs.getD k 0)))) :
    Calls Tryd.prog 20 #[.slice (some ⟨b, 0, none⟩) n c] w fun e w' => e = .returned (.float .f64 (shr (sumTo vs n) n)) ∧ w = w' := by
  unfold maxLen at hcm
  have hb0 : ((n : Int) == 0) = false := by rw [beq_eq_false_iff_ne]; omega
  have hle := sumTo_le vs hv
  have h0 := hc 0 (by omega)
  have hs1 : intW (vs.getD 0 0) = intW (sumTo vs 1) := by simp [sumTo]
  rw [hs1] at h0
  have hq : floatBits .quo .f64 (intW (sumTo vs n)) (floatOfInt .f64 (n : Int)) = some (shr (sumTo vs n) n) := by
    have := hle n
    have h := share_eq (f := sumTo vs n) (t := n) hn0 (by omega) (by omega)
    rw [floatOfInt_nat (by omega)] at h
    exact h
  have q1 := fun W => run_float_arith (P := Tryd.prog) W .quo 24 .f64 _ _ _ hq
  clear hs1
  by_cases c1 : c = 1
  · obtain rfl : n = 1 := by omega
    subst c1
    have q3 := fun W => run_float_arith (P := Tryd.prog) W .quo 24 .f64 (intW (sumTo vs 1)) (floatOfInt .f64 1) (shr (sumTo vs 1) 1) hq
    clear hc hle hv q1 hq
    go_enter Tryd.func20, Tryd.ntmps20
    go_wp2
    go_loop [3, 16] (fun s i => i = .int .i64 0 ∧ s = .float .f64 (intW (sumTo vs 1))) (fun _ i => 0)
    case atStart => exact ⟨rfl, rfl⟩
    case round =>
      obtain ⟨rfl, rfl⟩ := hrel
      go_wp2
      go_ret
      exact ⟨rfl, rfl⟩
  · have c2 : 1 < c := by omega
    clear hq
    go_enter Tryd.func20, Tryd.ntmps20
    go_wp2
    go_loop [3, 16] (fun s i => ∃ k : Nat, k + 1 ≤ n ∧ i = .int .i64 k ∧ s = .float .f64 (intW (sumTo vs (k + 1)))) (fun _ i => n - (intOf i).toNat)
    case atStart => exact ⟨0, by omega, rfl, rfl⟩
    case round =>
      obtain ⟨k, hk, rfl, rfl⟩ := hrel
      by_cases hlt : k < n - 1
      · have hck := hc (k + 1) (by omega)
        rw [show k + 1 = 1 + k by omega] at hck
        have hs := hle (k + 2)
        have ha : floatBits .add .f64 (intW (sumTo vs (k + 1))) (intW (vs.getD (1 + k) 0)) = some (intW (sumTo vs (k + 2))) := by
          have := add_int (a := sumTo vs (k + 1)) (b := vs.getD (k + 1) 0) (by have : sumTo vs (k + 2) = sumTo vs (k + 1) + vs.getD (k + 1) 0 := rfl
                                                                               omega)
          rw [show 1 + k = k + 1 by omega]
          exact this
        generalize vs.getD (1 + k) 0 = y at hck ha
        have q2 := fun W => run_float_arith (P := Tryd.prog) W .add 24 .f64 _ _ _ ha
        clear ha hs hc hle
        go_wp2
        go_round
        case rel => exact ⟨k + 1, by omega, by go_num, rfl⟩
        case measure => simp [intOf]; omega
      · have e : k + 1 = n := by omega
        rw [e]
        clear e
        clear hc hle
        go_wp2
        go_ret
        exact ⟨rfl, rfl⟩
end Go.Proofs.YtgcoodameahkbaaDoor.Fl
