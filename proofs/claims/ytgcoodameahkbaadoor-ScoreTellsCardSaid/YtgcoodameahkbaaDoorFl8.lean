/- The law ScoreShares returns true, for every two numbers; FormatInt's table is as laid. -/
import Derived.Test.YtgcoodameahkbaaDoorFl7
namespace Go.Proofs.YtgcoodameahkbaaDoor.Fl
open Go.RowKit

theorem gTab : Tryd.prog.globalNamed "internal/strconv.uint64pow10" = some 1 := by kernel_rfl

theorem share_nat {f t : Nat} (ht : t ≠ 0) (h1 : f < 9007199254740992) (h2 : t < 9007199254740992) {a b : Int} (ha : a = f) (hb : b = t) {r : Nat} (hr : shr f t = r) (w : World) :
    Calls Tryd.prog 13 #[.int .i64 a, .int .i64 b] w fun e w' => e = .returned (.float .f64 r) ∧ w = w' := by
  subst ha hb hr
  exact share_some _ _ _ (share_eq ht h1 h2) w

theorem below_next {w w1 w2 : World} (h1 : Below w.heap.size w w1) (h2 : Below w1.heap.size w1 w2) : Below w.heap.size w w2 := h1.trans (h2.mono h1.size)
theorem below3 {w w1 w2 w3 : World} (h1 : Below w.drew.heap.size w.drew w1) (h2 : Below w1.heap.size w1 w2) (h3 : Below w2.heap.size w2 w3) : Below w.heap.size w w3 :=
  below_next (below_next ((Below.refl w.heap.size w).drew.trans h1) h2) h3

set_option maxHeartbeats 1000000 in
theorem shares_any (a0 a1 : Int) (w : World) (htab : Lib.TabIs Tryd.prog w "internal/strconv.uint64pow10" .u64 Lib.pow10Tab) :
    Calls Tryd.prog 3 #[.int .i64 a0, .int .i64 a1] w fun e w' => e = .returned (.bool true) ∧ Below w.heap.size w w' := by
  obtain ⟨f, hf, cf⟩ := low_any a0 1000000 (by omega) (by omega)
  obtain ⟨u, hu, cu⟩ := low_any a1 1000000 (by omega) (by omega)
  have CF := Lib.hid cf
  have CU := Lib.hid cu
  clear cf cu
  have hm0 : 0 ≤ (f : Int) * (1 + (u : Int)) := Int.mul_nonneg (by omega) (by omega)
  have hm1 : (f : Int) * (1 + (u : Int)) ≤ 1000000 * 1000000 := Int.mul_le_mul (by omega) (by omega) (by omega) (by omega)
  have hmn : f * (1 + u) ≤ 1000000 * 1000000 := Nat.mul_le_mul (by omega) (by omega)
  have C1 := Lib.hid (fun W => share_nat (f := f) (t := 1 + u) (a := f) (b := 1 + (u : Int)) (by omega) (by omega) (by omega) rfl (by omega) rfl W)
  have C2 := Lib.hid (fun W => share_nat (f := f + 1) (t := 1 + u) (a := (f : Int) + 1) (b := 1 + (u : Int)) (by omega) (by omega) (by omega) (by omega) (by omega) rfl W)
  have C3 := Lib.hid (fun W => share_nat (f := 1 + u) (t := 1 + u) (a := 1 + (u : Int)) (b := 1 + (u : Int)) (by omega) (by omega) (by omega) (by omega) (by omega) (shr_one (by omega) (by omega)) W)
  have C4 := Lib.hid (fun W => share_nat (f := 0) (t := 1 + u) (a := 0) (b := 1 + (u : Int)) (by omega) (by omega) (by omega) rfl (by omega) (r := 0) (by simp [shr]) W)
  have C5 := Lib.hid (fun W => share_some ((f : Int) + 1) 0 _ (share_inf (f := f + 1) (by omega) (by omega)) W)
  have C6 := Lib.hid (fun W => share_some (-1 - (f : Int)) 0 18442240474082181120 (by rw [show (-1 - (f : Int)) = -((f + 1 : Nat) : Int) by omega]; exact share_neginf (f := f + 1) (by omega) (by omega)) W)
  have C7 := Lib.hid (fun W => share_none 0 0 (by kernel_rfl) W)
  have hw : shr (f * (1 + u)) (1 + u) = intW f := by
    unfold intW
    split
    · rename_i e; subst e; simp [shr]
    · rename_i e; exact shr_whole e (by omega) (by omega) (by omega)
  have C8 := Lib.hid (fun W => share_nat (f := f * (1 + u)) (t := 1 + u) (a := (f : Int) * (1 + (u : Int))) (b := 1 + (u : Int)) (by omega) (by omega) (by omega) (by simp) (by omega) hw W)
  have HL := Lib.hid (less_pos (shr_fin (t := 1 + u) (f := f + 1) (by omega) (by omega) (by omega)) (shr_lt (t := 1 + u) (f := f) (by omega) (by omega) (by omega)))
  have b1 : shr f (1 + u) < 18446744073709551616 := by have := shr_fin (t := 1 + u) (f := f) (by omega) (by omega) (by omega); omega
  have b2 : shr (f + 1) (1 + u) < 18446744073709551616 := by have := shr_fin (t := 1 + u) (f := f + 1) (by omega) (by omega) (by omega); omega
  have E1 : (FloatKind.f64.format.order 4607182418800017408 4607182418800017408 == some .eq) = true := by kernel_rfl
  have E2 : (FloatKind.f64.format.order 0 0 == some .eq) = true := by kernel_rfl
  have I1 := Lib.hid (show (FloatKind.f64.format.order 9218868437227405312 9218868437227405311 == some .gt) = true by kernel_rfl)
  have I2 := Lib.hid (show (FloatKind.f64.format.order (Op.negFloat .f64 18442240474082181120) 9218868437227405311 == some .gt) = true by kernel_rfl)
  have FI := Lib.hid (floatOfInt_nat (k := f) (by omega))
  have hW := intW_lt (k := f) (by omega)
  have CT := Lib.hid (fun W h => text_at (intW f) f (by omega) (by rw [intW_V (by omega)]; exact Nat.le_refl _) (by rw [intW_V (by omega)]; exact Nat.mul_lt_mul_of_pos_right (by omega) (Nat.two_pow_pos _)) (by omega) W h)
  have T1 := Lib.hid (Joins.tab_stays gTab htab (Below.drew (Below.refl w.heap.size w)) (Nat.le_refl _))
  clear htab hw
  go_enter Tryd.func3, Tryd.ntmps3
  go_wp2_with (first | (go_at_call 11; first | ((with_reducible refine (CF.out _).mono ?_); rintro e w' ⟨rfl, rfl⟩) | ((with_reducible refine (CU.out _).mono ?_); rintro e w' ⟨rfl, rfl⟩)) | (go_at_call 13; first | ((with_reducible refine (C1.out _).mono ?_); rintro e w' ⟨rfl, rfl⟩) | ((with_reducible refine (C2.out _).mono ?_); rintro e w' ⟨rfl, rfl⟩) | ((with_reducible refine (C3.out _).mono ?_); rintro e w' ⟨rfl, rfl⟩) | ((with_reducible refine (C4.out _).mono ?_); rintro e w' ⟨rfl, rfl⟩) | ((with_reducible refine (C5.out _).mono ?_); rintro e w' ⟨rfl, rfl⟩) | ((with_reducible refine (C6.out _).mono ?_); rintro e w' ⟨rfl, rfl⟩) | ((with_reducible refine (C8.out _).mono ?_); rintro e w' ⟨rfl, rfl⟩) | ((with_reducible refine (C7.out _).mono ?_); rintro e w' ⟨⟨r, rfl, hr1, hr2⟩, rfl⟩; have HR := Lib.hid hr1; clear hr1)) | (go_at_call 12; refine (less_any _ _ b1 b2 _).mono ?_; rintro e w' ⟨rfl, rfl⟩; rw [HL.out]) | (go_at_call 14; first | ((with_reducible refine (isInf_pos _ _).mono ?_); rintro e w' ⟨rfl, rfl⟩; rw [I1.out]) | ((with_reducible refine (isInf_neg _ _).mono ?_); rintro e w' ⟨rfl, rfl⟩; rw [I2.out])) | (go_at_call 15; refine (isNaN_any _ _).mono ?_; rintro e w' ⟨rfl, rfl⟩; rw [HR.out]) | (go_at_call 16; first | ((with_reducible refine (CT.out _ T1.out).mono ?_); rintro e w1 ⟨rfl, hb1⟩; have HB1 := Lib.hid hb1; have T2 := Lib.hid (Joins.tab_stays gTab T1.out hb1 (Nat.le_refl _)); clear hb1) | (rw [FI.out]; (with_reducible refine (CT.out _ T2.out).mono ?_); rintro e w2 ⟨rfl, hb2⟩; have HB2 := Lib.hid hb2; clear hb2)) | (go_at_call 17; refine (awake_any _).mono ?_; rintro e w3 ⟨rfl, hb3⟩; have HB3 := Lib.hid hb3; clear hb3))
  go_ret
  exact ⟨rfl, below3 HB1.out HB2.out HB3.out⟩
end Go.Proofs.YtgcoodameahkbaaDoor.Fl
