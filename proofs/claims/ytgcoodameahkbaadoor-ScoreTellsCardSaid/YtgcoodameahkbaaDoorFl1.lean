/- What IsNaN, NaN, Inf, Signbit, Less, Alike, Best, Clamp answer, for all floats by their bits. -/
import Derived.Test.YtgcoodameahkbaaDoorFlWords
import Derived.Test.YtgcoodameahkbaaDoorProg
import Derived.WalkKit
import Derived.WalkLawsBesides
import Derived.KernelRfl
import Derived.Laws.FloatArith
import Derived.Laws.Externs
import Derived.Deep.QuietTactic
import Derived.BigQuiet
import Derived.Lib.Hide
import Derived.LoopTactic
namespace Go.Proofs.YtgcoodameahkbaaDoor.Fl
open Go.RowKit

theorem isNaN_any (b : Nat) (w : World) : Calls Tryd.prog 15 #[.float .f64 b] w fun e w' => e = .returned (.bool (nanB b)) ∧ w = w' := by
  go_enter Tryd.func15, Tryd.ntmps15
  go_wp2
  go_ret
  exact ⟨rfl, rfl⟩

theorem run_frombits (n : Int) (w : World) : (callFunc 22 #[.int .u64 n]).run Tryd.prog w = .ok (.value (.float .f64 n.toNat)) w := by
  rw [run_callFunc_extern Tryd.func22 (by kernel_rfl) (by kernel_rfl) (by kernel_rfl) (e := Extern.MathFloatBits.float64frombits) (by kernel_rfl)]
  rfl

theorem run_bits (n : Nat) (w : World) : (callFunc 45 #[.float .f64 n]).run Tryd.prog w = .ok (.value (.int .u64 n)) w := by
  rw [run_callFunc_extern Tryd.func45 (by kernel_rfl) (by kernel_rfl) (by kernel_rfl) (e := Extern.MathFloatBits.float64bits) (by kernel_rfl)]
  rfl

theorem nan_any (w : World) : Calls Tryd.prog 21 #[] w fun e w' => e = .returned (.float .f64 nanC) ∧ w = w' := by
  go_enter Tryd.func21, Tryd.ntmps21
  go_wp2
  rw [run_frombits _ _, Oper.upon_value]
  go_wp2
  go_ret
  exact ⟨rfl, rfl⟩

theorem inf_pos (w : World) : Calls Tryd.prog 43 #[.int .i64 1] w fun e w' => e = .returned (.float .f64 9218868437227405312) ∧ w = w' := by
  go_enter Tryd.func43, Tryd.ntmps43
  go_wp2
  rw [run_frombits _ _, Oper.upon_value]
  go_wp2
  go_ret
  exact ⟨rfl, rfl⟩

theorem signbit_any (b : Nat) (hb : b < 18446744073709551616) (w : World) : Calls Tryd.prog 40 #[.float .f64 b] w fun e w' => e = .returned (.bool (sgnB b)) ∧ w = w' := by
  go_enter Tryd.func40, Tryd.ntmps40
  go_wp2
  rw [run_bits, Oper.upon_value]
  go_wp2
  go_ret
  exact ⟨by rw [← sgn_wrap hb]; rfl, rfl⟩

theorem below_any (a b : Nat) (ha : a < 18446744073709551616) (hb : b < 18446744073709551616) (w : World) : Calls Tryd.prog 38 #[.float .f64 a, .float .f64 b] w fun e w' => e = .returned (.bool (belowB a b)) ∧ w = w' := by
  cases h1 : (FloatKind.f64.format.order a 0 == some .eq)
  · have E : belowB a b = (FloatKind.f64.format.order a b == some .lt) := by simp [belowB, h1]
    have H := Lib.hid E; clear E
    go_enter Tryd.func38, Tryd.ntmps38
    go_wp2
    go_ret
    exact ⟨by rw [H.out]; rfl, rfl⟩
  · cases h2 : (FloatKind.f64.format.order b 0 == some .eq)
    · have E : belowB a b = (FloatKind.f64.format.order a b == some .lt) := by simp [belowB, h2]
      have H := Lib.hid E; clear E
      go_enter Tryd.func38, Tryd.ntmps38
      go_wp2
      go_ret
      exact ⟨by rw [H.out]; rfl, rfl⟩
    · have E : belowB a b = (sgnB a && !sgnB b) := by simp [belowB, h1, h2]
      have H := Lib.hid E; clear E
      cases h3 : sgnB a
      · have H3 := Lib.hid h3; clear h3
        go_enter Tryd.func38, Tryd.ntmps38
        go_wp2_with (go_at_call 40; refine (signbit_any _ (by assumption) _).mono ?_; rintro e w' ⟨rfl, rfl⟩; rw [H3.out])
        go_ret
        exact ⟨by rw [H.out, H3.out]; rfl, rfl⟩
      · have H3 := Lib.hid h3; clear h3
        go_enter Tryd.func38, Tryd.ntmps38
        go_wp2_with (go_at_call 40; refine (signbit_any _ (by assumption) _).mono ?_; rintro e w' ⟨rfl, rfl⟩; try rw [H3.out])
        go_ret
        exact ⟨by rw [H.out, H3.out]; rfl, rfl⟩

theorem less_any (a b : Nat) (ha : a < 18446744073709551616) (hb : b < 18446744073709551616) (w : World) : Calls Tryd.prog 12 #[.float .f64 a, .float .f64 b] w fun e w' => e = .returned (.bool (lessB a b)) ∧ w = w' := by
  cases h1 : nanB a
  · cases h2 : nanB b
    · have E : lessB a b = belowB a b := by simp [lessB, h1, h2]
      have H := Lib.hid E; clear E
      have H1 := Lib.hid h1; clear h1
      have H2 := Lib.hid h2; clear h2
      go_enter Tryd.func12, Tryd.ntmps12
      go_wp2_with (first | (go_at_call 15; refine (isNaN_any _ _).mono ?_; rintro e w' ⟨rfl, rfl⟩; first | rw [H1.out] | rw [H2.out]) | (go_at_call 38; refine (below_any _ _ (by assumption) (by assumption) _).mono ?_; rintro e w' ⟨rfl, rfl⟩))
      go_ret
      exact ⟨by rw [H.out]; rfl, rfl⟩
    · have E : lessB a b = false := by simp [lessB, h1, h2]
      have H := Lib.hid E; clear E
      have H1 := Lib.hid h1; clear h1
      have H2 := Lib.hid h2; clear h2
      go_enter Tryd.func12, Tryd.ntmps12
      go_wp2_with (first | (go_at_call 15; refine (isNaN_any _ _).mono ?_; rintro e w' ⟨rfl, rfl⟩; first | rw [H1.out] | rw [H2.out]))
      go_ret
      exact ⟨by rw [H.out]; rfl, rfl⟩
  · cases h2 : nanB b
    · have E : lessB a b = true := by simp [lessB, h1, h2]
      have H := Lib.hid E; clear E
      have H1 := Lib.hid h1; clear h1
      have H2 := Lib.hid h2; clear h2
      go_enter Tryd.func12, Tryd.ntmps12
      go_wp2_with (first | (go_at_call 15; refine (isNaN_any _ _).mono ?_; rintro e w' ⟨rfl, rfl⟩; first | rw [H1.out] | rw [H2.out]))
      go_ret
      exact ⟨by rw [H.out]; rfl, rfl⟩
    · have E : lessB a b = false := by simp [lessB, h1, h2]
      have H := Lib.hid E; clear E
      have H1 := Lib.hid h1; clear h1
      have H2 := Lib.hid h2; clear h2
      go_enter Tryd.func12, Tryd.ntmps12
      go_wp2_with (first | (go_at_call 15; refine (isNaN_any _ _).mono ?_; rintro e w' ⟨rfl, rfl⟩; first | rw [H1.out] | rw [H2.out]))
      go_ret
      exact ⟨by rw [H.out]; rfl, rfl⟩

theorem alike_any (a b : Nat) (ha : a < 18446744073709551616) (hb : b < 18446744073709551616) (w : World) : Calls Tryd.prog 24 #[.float .f64 a, .float .f64 b] w fun e w' => e = .returned (.bool (alikeB a b)) ∧ w = w' := by
  cases h1 : lessB a b
  · have E : alikeB a b = !lessB b a := by simp [alikeB, h1]
    have H := Lib.hid E; clear E
    have H1 := Lib.hid h1; clear h1
    go_enter Tryd.func24, Tryd.ntmps24
    go_wp2_with (go_at_call 12; refine (less_any _ _ (by assumption) (by assumption) _).mono ?_; rintro e w' ⟨rfl, rfl⟩; try rw [H1.out])
    go_ret
    exact ⟨by rw [H.out]; rfl, rfl⟩
  · have E : alikeB a b = false := by simp [alikeB, h1]
    have H := Lib.hid E; clear E
    have H1 := Lib.hid h1; clear h1
    go_enter Tryd.func24, Tryd.ntmps24
    go_wp2_with (go_at_call 12; refine (less_any _ _ (by assumption) (by assumption) _).mono ?_; rintro e w' ⟨rfl, rfl⟩; rw [H1.out])
    go_ret
    exact ⟨by rw [H.out]; rfl, rfl⟩

set_option maxHeartbeats 1000000 in
theorem best_any (b off n c : Nat) (xs : List Nat) (w : World) (hm : n ≤ 1000000) (hx : ∀ k, k < n → xs.getD k 0 < 18446744073709551616)
    (hc : ∀ k, k < n → w.cell? ⟨b, off + k, none⟩ = some (.float .f64 (xs.getD k 0))) :
    Calls Tryd.prog 27 #[.slice (some ⟨b, off, none⟩) n c] w fun e w' => e = .returned (.int .i64 (bestTo xs n)) ∧ w = w' := by
  go_enter Tryd.func27, Tryd.ntmps27
  go_wp2
  go_loop [3, 8] (fun best i => ∃ k : Nat, k ≤ n ∧ i = .int .i64 k ∧ best = .int .i64 (bestTo xs k)) (fun _ i => n - (intOf i).toNat)
  case atStart => exact ⟨0, Nat.zero_le _, rfl, rfl⟩
  case round =>
    obtain ⟨k, hk, rfl, rfl⟩ := hrel
    have hb := bestTo_bd xs k
    by_cases hlt : k < n
    · obtain ⟨x, hx0⟩ : ∃ x, xs.getD k 0 = x := ⟨_, rfl⟩
      obtain ⟨m, hm0⟩ : ∃ m, bestTo xs k = m := ⟨_, rfl⟩
      have hck := hc k hlt
      have hxk := hx k hlt
      rw [hx0] at hck hxk
      have HS : Hid (bestTo xs (k + 1) = if !nanB x && (decide (m < 0) || lessB (xs.getD m.toNat 0) x) then (k : Int) else m) := by rw [← hx0, ← hm0]; rfl
      rw [hm0] at hb ⊢
      clear hx0 hm0
      cases h1 : nanB x
      · have H1 := Lib.hid h1
        by_cases h2 : m < 0
        · have E : bestTo xs (k + 1) = k := by rw [HS.out, h1, decide_eq_true h2]; rfl
          have H := Lib.hid E; clear E h1 HS hc hx
          go_wp2_with (first | (go_at_call 15; refine (isNaN_any _ _).mono ?_; rintro e w' ⟨rfl, rfl⟩; rw [H1.out]))
          go_round
          case rel => exact ⟨k + 1, by omega, by go_num, by rw [H.out]⟩
          case measure => simp [intOf]; omega
        · obtain ⟨j, rfl⟩ := Int.eq_ofNat_of_zero_le (show 0 ≤ m by omega)
          have hcj := hc j (by omega)
          have hxj := hx j (by omega)
          obtain ⟨y, hy0⟩ : ∃ y, xs.getD j 0 = y := ⟨_, rfl⟩
          rw [hy0] at hcj hxj
          have HT : Hid (bestTo xs (k + 1) = if lessB y x then (k : Int) else j) := by show bestTo xs (k + 1) = _; rw [HS.out, h1, decide_eq_false h2, Int.toNat_natCast, hy0]; simp
          clear hy0 HS h1 hc hx
          cases h3 : lessB y x
          · have E : bestTo xs (k + 1) = j := by rw [HT.out, h3]; simp
            have H := Lib.hid E; clear E HT
            have H3 := Lib.hid h3; clear h3
            go_wp2_with (first | (go_at_call 15; refine (isNaN_any _ _).mono ?_; rintro e w' ⟨rfl, rfl⟩; rw [H1.out]) | (go_at_call 12; refine (less_any _ _ hxj hxk _).mono ?_; rintro e w' ⟨rfl, rfl⟩; rw [H3.out]))
            go_round
            case rel => exact ⟨k + 1, by omega, by go_num, by rw [H.out]⟩
            case measure => simp [intOf]; omega
          · have E : bestTo xs (k + 1) = k := by rw [HT.out, h3]; simp
            have H := Lib.hid E; clear E HT
            have H3 := Lib.hid h3; clear h3
            go_wp2_with (first | (go_at_call 15; refine (isNaN_any _ _).mono ?_; rintro e w' ⟨rfl, rfl⟩; rw [H1.out]) | (go_at_call 12; refine (less_any _ _ hxj hxk _).mono ?_; rintro e w' ⟨rfl, rfl⟩; rw [H3.out]))
            go_round
            case rel => exact ⟨k + 1, by omega, by go_num, by rw [H.out]⟩
            case measure => simp [intOf]; omega
      · have H1 := Lib.hid h1
        have E : bestTo xs (k + 1) = m := by rw [HS.out, h1]; simp
        have H := Lib.hid E; clear E h1 HS hc hx
        go_wp2_with (first | (go_at_call 15; refine (isNaN_any _ _).mono ?_; rintro e w' ⟨rfl, rfl⟩; rw [H1.out]))
        go_round
        case rel => exact ⟨k + 1, by omega, by go_num, by rw [H.out]⟩
        case measure => simp [intOf]; omega
    · clear hc hx
      go_wp2
      go_ret
      obtain rfl : k = n := by omega
      exact ⟨rfl, rfl⟩

theorem clamp_any (x lo hi : Nat) (hx : x < 18446744073709551616) (hlo : lo < 18446744073709551616) (hhi : hi < 18446744073709551616) (w : World) : Calls Tryd.prog 23 #[.float .f64 x, .float .f64 lo, .float .f64 hi] w fun e w' => e = .returned (.float .f64 (clampB x lo hi)) ∧ w = w' := by
  have E : clampB x lo hi = if nanB x || nanB lo || nanB hi || lessB hi lo then nanC else if lessB x lo then lo else if lessB hi x then hi else x := rfl
  have H := Lib.hid E; clear E
  cases h1 : nanB x <;> cases h2 : nanB lo <;> cases h3 : nanB hi <;> cases h4 : lessB hi lo <;> cases h5 : lessB x lo <;> cases h6 : lessB hi x
  all_goals
    have H1 := Lib.hid h1; clear h1
    have H2 := Lib.hid h2; clear h2
    have H3 := Lib.hid h3; clear h3
    have H4 := Lib.hid h4; clear h4
    have H5 := Lib.hid h5; clear h5
    have H6 := Lib.hid h6; clear h6
    go_enter Tryd.func23, Tryd.ntmps23
    go_wp2_with (first | (go_at_call 15; refine (isNaN_any _ _).mono ?_; rintro e w' ⟨rfl, rfl⟩; first | rw [H1.out] | rw [H2.out] | rw [H3.out]) | (go_at_call 12; refine (less_any _ _ (by assumption) (by assumption) _).mono ?_; rintro e w' ⟨rfl, rfl⟩; first | rw [H4.out] | rw [H5.out] | rw [H6.out]) | (go_at_call 21; refine (nan_any _).mono ?_; rintro e w' ⟨rfl, rfl⟩))
    go_ret
    exact ⟨by rw [H.out, H1.out, H2.out, H3.out, H4.out, H5.out, H6.out]; rfl, rfl⟩
end Go.Proofs.YtgcoodameahkbaaDoor.Fl
