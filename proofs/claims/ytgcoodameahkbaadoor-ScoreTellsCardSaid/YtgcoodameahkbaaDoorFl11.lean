/- What Mean answers of nothing, and of numbers of which the last one is none. -/
import Derived.Test.YtgcoodameahkbaaDoorFl10
namespace Go.Proofs.YtgcoodameahkbaaDoor.Fl
open Go.RowKit

theorem mean_nil (w : World) : Calls Tryd.prog 20 #[.slice none 0 0] w fun e w' => e = .returned (.float .f64 nanC) ∧ w = w' := by
  go_enter Tryd.func20, Tryd.ntmps20
  go_wp2_with (go_at_call 21; refine (nan_any _).mono ?_; rintro e w' ⟨rfl, rfl⟩)
  go_ret
  exact ⟨rfl, rfl⟩

/-- what the loop's sum is, over k elements behind the first -/
def NanRel (vs : List Nat) (n : Nat) (w : World) (s i : Value) (wr : World) : Prop :=
  ∃ k : Nat, k ≤ n ∧ i = .int .i64 k ∧ ((k < n ∧ s = .float .f64 (intW (sumTo vs (k + 1))) ∧ w = wr) ∨ (k = n ∧ (∃ r, s = .float .f64 r ∧ nanB r = true) ∧ w.drew = wr))

set_option maxHeartbeats 1000000 in
theorem mean_nan (b n m c : Nat) (vs : List Nat) (w : World) (hn0 : n ≠ 0) (hn : n ≤ 30) (hm : m = n + 1) (hcap : m ≤ c) (hcm : c ≤ maxLen) (hv : ∀ k, vs.getD k 0 < 1000)
    (hc : ∀ k, k < n → w.cell? ⟨b, k, none⟩ = some (.float .f64 (intW (vs.getD k 0)))) (hx : w.cell? ⟨b, n, none⟩ = some (.float .f64 nanC)) :
    Calls Tryd.prog 20 #[.slice (some ⟨b, 0, none⟩) m c] w fun e w' => (∃ r, e = .returned (.float .f64 r) ∧ nanB r = true) ∧ Below w.heap.size w w' := by
  unfold maxLen at hcm
  have hb0 : ((m : Int) == 0) = false := by rw [beq_eq_false_iff_ne]; omega
  have hle := sumTo_le vs hv
  have h0 := hc 0 (by omega)
  have hs1 : intW (vs.getD 0 0) = intW (sumTo vs 1) := by simp [sumTo]
  rw [hs1] at h0
  clear hs1
  have c2 : 1 < c := by omega
  have HM := Lib.hid hm
  have hm1 : n + 1 ≤ m := by omega
  have hm2 : m ≤ n + 1 := by omega
  clear hm
  go_enter Tryd.func20, Tryd.ntmps20
  go_wp2
  go_loopw [3, 16] (fun s i wr => NanRel vs n w s i wr) (fun _ i _ => m - (intOf i).toNat)
  case atStart => exact ⟨0, by omega, rfl, .inl ⟨by omega, rfl, rfl⟩⟩
  case round =>
    obtain ⟨k, hk, rfl, hrel⟩ := hrel
    rcases hrel with ⟨hlt, rfl, rfl⟩ | ⟨hke, ⟨r, rfl, hr⟩, rfl⟩
    · by_cases hlast : k + 1 < n
      · have hck := hc (k + 1) (by omega)
        rw [show k + 1 = 1 + k by omega] at hck
        have hs := hle (k + 2)
        have ha : floatBits .add .f64 (intW (sumTo vs (k + 1))) (intW (vs.getD (1 + k) 0)) = some (intW (sumTo vs (k + 2))) := by
          have := add_int (a := sumTo vs (k + 1)) (b := vs.getD (k + 1) 0) (by have : sumTo vs (k + 2) = sumTo vs (k + 1) + vs.getD (k + 1) 0 := rfl
                                                                               omega)
          rw [show 1 + k = k + 1 by omega]
          exact this
        generalize vs.getD (1 + k) 0 = y at hck ha
        have q2 := fun W => run_float_arith (P := Tryd.prog) W .add 24 .f64 _ _ _ ha
        clear ha hs hc hle
        go_wp2
        go_roundw
        case rel => exact ⟨k + 1, by omega, by go_num, .inl ⟨hlast, rfl, rfl⟩⟩
        case measure => simp [intOf]; omega
      · have hx2 : w.cell? ⟨b, 1 + k, none⟩ = some (.float .f64 nanC) := by rw [show 1 + k = n by omega]; exact hx
        have q2 := fun W => run_float_none (P := Tryd.prog) W .add 24 (intW (sumTo vs (k + 1))) nanC (.inl rfl) (add_nan (by kernel_rfl))
        clear hc hle hx h0
        go_wp2
        go_roundw
        case rel => exact ⟨k + 1, by omega, by go_num, .inr ⟨by omega, ⟨_, rfl, (nanOf_spec _ _ _).1⟩, rfl⟩⟩
        case measure => simp [intOf]; omega
    · have q2 := fun W => run_float_none (P := Tryd.prog) W .quo 24 r (floatOfInt .f64 (m : Int)) (.inr rfl) (quo_nan hr)
      clear hc hle hx h0
      have hge : ¬ k < m - 1 := by omega
      go_wp2
      go_ret
      exact ⟨⟨_, rfl, (nanOf_spec _ _ _).1⟩, (Below.refl _ _).drew.drew⟩
end Go.Proofs.YtgcoodameahkbaaDoor.Fl
