/- What Text of minus a half, and Copysign of 0 and minus 1, answer. -/
import Derived.Test.YtgcoodameahkbaaDoorFl3
namespace Go.Proofs.YtgcoodameahkbaaDoor.Fl
open Go.RowKit

theorem formatInt_zero (w : World) :
    Calls Tryd.prog 42 #[.int .i64 0, .int .i64 10] w fun e w' => e = .returned (.string ⟨#[48]⟩) ∧ w = w' := by
  have HZ := Lib.hid (show (Lib.decDigits 0).toArray = #[48] by kernel_rfl)
  go_enter Tryd.func42, Tryd.ntmps42
  go_wp2_with (go_at_call 50; refine (Tryd.internal_strconv_FormatInt_10_small 0 (by omega) _).mono ?_; rintro e w' ⟨rfl, rfl⟩; rw [HZ.out])
  go_ret
  exact ⟨rfl, rfl⟩

theorem text_half (w : World) : Calls Tryd.prog 16 #[.float .f64 13826050856027422720] w fun e w' => e = .returned (.string ⟨#[45, 48]⟩) ∧ w = w' := by
  have hf := fun W => run_convert_float_int (P := Tryd.prog) W 24 2 .f64 .i64 0 0 (by kernel_rfl) Tryd.underlying2 (by kernel_rfl)
  have hd0 : ∀ s t, FloatKind.f64.decode 4602678819172646912 ≠ .nan s t := by
    intro s t h
    have e : FloatKind.f64.decode 4602678819172646912 = .number false 4503599627370496 (-53) := by kernel_rfl
    rw [e] at h
    cases h
  have HD := Lib.hid hd0
  clear hd0
  have HA := Lib.hid (show absB 13826050856027422720 = 4602678819172646912 by decide)
  have HS := Lib.hid (show sgnB 13826050856027422720 = true by decide)
  have HN := Lib.hid (show nanB 13826050856027422720 = false by kernel_rfl)
  have HT := Lib.hid (show truncB 4602678819172646912 = 0 by kernel_rfl)
  have HI := Lib.hid (show (FloatKind.f64.format.order 4602678819172646912 9218868437227405311 == some .gt) = false by kernel_rfl)
  have h1 : (FloatKind.f64.format.order 0 4845873199050653696 == some .gt) = false := by kernel_rfl
  have h2 : (FloatKind.f64.format.order 0 4845873199050653696 == some .eq) = false := by kernel_rfl
  go_enter Tryd.func16, Tryd.ntmps16
  go_wp2_with (first | (go_at_call 40; refine (signbit_any _ (by omega) _).mono ?_; rintro e w' ⟨rfl, rfl⟩; rw [HS.out]) | (go_at_call 39; refine (abs_any _ (by omega) _).mono ?_; rintro e w' ⟨rfl, rfl⟩; rw [HA.out]) | (go_at_call 41; refine (trunc_num _ _ HD.out).mono ?_; rintro e w' ⟨rfl, rfl⟩; rw [HT.out]) | (go_at_call 15; refine (isNaN_any _ _).mono ?_; rintro e w' ⟨rfl, rfl⟩; rw [HN.out]) | (go_at_call 14; refine (isInf_zero _ (by omega) _).mono ?_; rintro e w' ⟨rfl, rfl⟩; rw [HA.out, HI.out]) | (go_at_call 42; refine (formatInt_zero _).mono ?_; rintro e w' ⟨rfl, rfl⟩))
  go_ret
  exact ⟨rfl, rfl⟩

theorem copysign_zero (w : World) : Calls Tryd.prog 19 #[.float .f64 0, .float .f64 13830554455654793216] w fun e w' => e = .returned (.float .f64 9223372036854775808) ∧ w = w' := by
  have h1 := fun W => run_bits 0 W
  have h2 := fun W => run_bits 13830554455654793216 W
  have h3 : bits BinOp.andNot IntKind.u64 0 9223372036854775808 = 0 := by kernel_rfl
  have h4 : bits BinOp.and IntKind.u64 13830554455654793216 9223372036854775808 = 9223372036854775808 := by kernel_rfl
  have h5 : bits BinOp.or IntKind.u64 0 9223372036854775808 = 9223372036854775808 := by kernel_rfl
  have h6 := fun W => run_frombits 9223372036854775808 W
  go_enter Tryd.func19, Tryd.ntmps19
  go_wp2
  go_ret
  exact ⟨rfl, rfl⟩
end Go.Proofs.YtgcoodameahkbaaDoor.Fl
