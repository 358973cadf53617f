/- The law ScoreTexts returns true, for every two numbers. -/
import Derived.Test.YtgcoodameahkbaaDoorFl8
import Derived.Test.YtgcoodameahkbaaDoorFlSum
namespace Go.Proofs.YtgcoodameahkbaaDoor.Fl
open Go.RowKit

/-- where a walk stands: w's blocks are as they were, the table too -/
def St (w W : World) : Prop := Below w.heap.size w W ∧ Lib.TabIs Tryd.prog W "internal/strconv.uint64pow10" .u64 Lib.pow10Tab
theorem St.next {w W W' : World} (h : St w W) (hb : Below W.heap.size W W') : St w W' := ⟨below_next h.1 hb, Joins.tab_stays gTab h.2 hb (Nat.le_refl _)⟩
theorem St.init {w : World} (htab : Lib.TabIs Tryd.prog w "internal/strconv.uint64pow10" .u64 Lib.pow10Tab) : St w w := ⟨Below.refl _ _, htab⟩

theorem itoa_st (n : Nat) (hn : n < 1000000000) {w W : World} (h : St w W) : Calls Tryd.prog 18 #[.int .i64 n] W fun e w' => e = .returned (.string ⟨(Lib.itoa n).toArray⟩) ∧ St w w' := by
  refine (Tryd.strconv_Itoa n (by omega) (by omega) W h.2).mono ?_
  rintro e w' ⟨he, k, os, rfl⟩
  exact ⟨he, h.next (below_grow W k os)⟩

theorem text_pos (b n : Nat) (hn : n < 1000000000) (h1 : n * 2 ^ cc ≤ V b) (h2 : V b < (n + 1) * 2 ^ cc) (hb : b < 4741671816366391297) {w W : World} (h : St w W) :
    Calls Tryd.prog 16 #[.float .f64 b] W fun e w' => e = .returned (.string (⟨#[43]⟩ ++ ⟨(Lib.itoa n).toArray⟩)) ∧ St w w' := by
  refine (text_at b n hn h1 h2 hb W h.2).mono ?_
  rintro e w' ⟨he, hb⟩
  exact ⟨he, h.next hb⟩

theorem text_neg (b n : Nat) (hn : n < 1000000000) (h1 : n * 2 ^ cc ≤ V b) (h2 : V b < (n + 1) * 2 ^ cc) (hb : b < 4741671816366391297) {w W : World} (h : St w W) :
    Calls Tryd.prog 16 #[.float .f64 (9223372036854775808 + b)] W fun e w' => e = .returned (.string (⟨#[45]⟩ ++ ⟨(Lib.itoa n).toArray⟩)) ∧ St w w' := by
  obtain ⟨f1, f2, f3, f4, f5, f6, f7⟩ := text_facts hn h1 h2 hb
  have ha : absB (9223372036854775808 + b) = b := by unfold absB; omega
  have hs : signT (9223372036854775808 + b) = ⟨#[45]⟩ := by
    unfold signT sgnB
    rw [decide_eq_true (by omega)]; rfl
  have := text_num (9223372036854775808 + b) n (by omega) (nan_neg (by omega)) (by rw [ha]; exact f3) (by rw [ha]; exact f4) (by rw [ha, f5]; exact f7) (by rw [ha, f5]; exact f6) (by omega) (by omega) W h.2
  rw [hs] at this
  refine this.mono ?_
  rintro e w' ⟨he, hb⟩
  exact ⟨he, h.next hb⟩

theorem text_zero {w W : World} (h : St w W) : Calls Tryd.prog 16 #[.float .f64 0] W fun e w' => e = .returned (.string ⟨#[43, 48]⟩) ∧ St w w' := by
  have := text_pos 0 0 (by omega) (by omega) (by have : V 0 = 0 := by decide
                                                 rw [this]; exact Nat.mul_pos (by omega) (Nat.two_pow_pos _)) (by omega) h
  have e : (⟨#[43]⟩ ++ ⟨(Lib.itoa (0 : Nat)).toArray⟩ : ByteArray) = ⟨#[43, 48]⟩ := by decide +kernel
  rw [e] at this
  exact this

theorem text_inf (w : World) : Calls Tryd.prog 16 #[.float .f64 9218868437227405312] w fun e w' => e = .returned (.string ⟨#[43, 105, 110, 102]⟩) ∧ w = w' := by
  have hd0 : ∀ s t, FloatKind.f64.decode 9218868437227405312 ≠ .nan s t := by
    intro s t h
    have e : FloatKind.f64.decode 9218868437227405312 = .infinity false := by kernel_rfl
    rw [e] at h
    cases h
  have HD := Lib.hid hd0
  clear hd0
  have HA := Lib.hid (show absB 9218868437227405312 = 9218868437227405312 by decide)
  have HS := Lib.hid (show sgnB 9218868437227405312 = false by decide)
  have HN := Lib.hid (show nanB 9218868437227405312 = false by kernel_rfl)
  have HI := Lib.hid (show (FloatKind.f64.format.order 9218868437227405312 9218868437227405311 == some .gt) = true by kernel_rfl)
  go_enter Tryd.func16, Tryd.ntmps16
  go_wp2_with (first | (go_at_call 40; refine (signbit_any _ (by omega) _).mono ?_; rintro e w' ⟨rfl, rfl⟩; rw [HS.out]) | (go_at_call 39; refine (abs_any _ (by omega) _).mono ?_; rintro e w' ⟨rfl, rfl⟩; rw [HA.out]) | (go_at_call 41; refine (trunc_num _ _ HD.out).mono ?_; rintro e w' ⟨rfl, rfl⟩) | (go_at_call 15; refine (isNaN_any _ _).mono ?_; rintro e w' ⟨rfl, rfl⟩; rw [HN.out]) | (go_at_call 14; refine (isInf_zero _ (by omega) _).mono ?_; rintro e w' ⟨rfl, rfl⟩; rw [HA.out, HI.out]))
  go_ret
  exact ⟨rfl, rfl⟩

theorem copysign_neg (X : Nat) (h : X < 9223372036854775808) (w : World) : Calls Tryd.prog 19 #[.float .f64 X, .float .f64 13830554455654793216] w fun e w' => e = .returned (.float .f64 (9223372036854775808 + X)) ∧ w = w' := by
  have h1 := fun W => run_bits X W
  have h2 := fun W => run_bits 13830554455654793216 W
  have h3 : bits BinOp.andNot IntKind.u64 (X : Int) 9223372036854775808 = X := by
    have h := u64_andNot_nat X 9223372036854775808 (by omega) (by omega)
    rw [show ((9223372036854775808 : Nat) : Int) = 9223372036854775808 from rfl] at h
    rw [h, show 18446744073709551615 - 9223372036854775808 = 2 ^ 63 - 1 from rfl, Nat.and_two_pow_sub_one_eq_mod, Nat.mod_eq_of_lt (by omega)]
  have h4 : bits BinOp.and IntKind.u64 13830554455654793216 9223372036854775808 = 9223372036854775808 := by kernel_rfl
  have h5 : bits BinOp.or IntKind.u64 (X : Int) 9223372036854775808 = ((9223372036854775808 + X : Nat) : Int) := by
    have h := u64_or_nat X 9223372036854775808 (by omega) (by omega)
    rw [show ((9223372036854775808 : Nat) : Int) = 9223372036854775808 from rfl] at h
    rw [h, or_sign (by omega)]
  have h6 := fun W => run_frombits (bits BinOp.or IntKind.u64 (X : Int) 9223372036854775808) W
  have H5 := Lib.hid h5
  clear h5
  go_enter Tryd.func19, Tryd.ntmps19
  go_wp2
  go_ret
  exact ⟨by show Ending.returned (.float .f64 (bits BinOp.or IntKind.u64 (X : Int) 9223372036854775808).toNat) = _; rw [H5.out, Int.toNat_natCast], rfl⟩

set_option maxHeartbeats 1000000 in
theorem texts_core (n p X Y : Nat) (a0 a1 : Int) (hn : n < 1000000) (hp : p < 1000) (cn : ∀ w, Calls Tryd.prog 11 #[.int .i64 a0, .int .i64 1000000] w fun e w' => e = .returned (.int .i64 n) ∧ w = w') (cp : ∀ w, Calls Tryd.prog 11 #[.int .i64 a1, .int .i64 1000] w fun e w' => e = .returned (.int .i64 p) ∧ w = w')
    (hadd : floatBits .add .f64 (intW n) (shr p 1000) = some Y) (hX : if p = 999 then X = intW n else X = Y) (h1 : n * 2 ^ cc ≤ V X) (h2 : V X < (n + 1) * 2 ^ cc) (hXb : X < 4741671816366391297)
    (w : World) (htab : Lib.TabIs Tryd.prog w "internal/strconv.uint64pow10" .u64 Lib.pow10Tab) :
    Calls Tryd.prog 4 #[.int .i64 a0, .int .i64 a1] w fun e w' => e = .returned (.bool true) ∧ Below w.heap.size w w' := by
  have CN := Lib.hid cn
  have CP := Lib.hid cp
  clear cn cp
  have S := Lib.hid (St.init htab)
  clear htab
  have hq : floatBits .quo .f64 (floatOfInt .f64 (p : Int)) 4652007308841189376 = some (shr p 1000) := by
    have := share_eq (f := p) (t := 1000) (by omega) (by omega) (by omega)
    rw [show floatOfInt .f64 ((1000 : Nat) : Int) = 4652007308841189376 by decide] at this
    exact this
  have hfw : floatOfInt .f64 (n : Int) = intW n := floatOfInt_nat (by omega)
  have hwl := intW_lt (k := n) (by omega)
  have CI := Lib.hid (fun (W : World) (h : St w W) => itoa_st n (by omega) h)
  have CZ := Lib.hid (fun (W : World) (h : St w W) => text_zero h)
  have hv1 : n * 2 ^ cc ≤ V (intW n) := by rw [intW_V (by omega)]; exact Nat.le_refl _
  have hv2 : V (intW n) < (n + 1) * 2 ^ cc := by rw [intW_V (by omega)]; exact Nat.mul_lt_mul_of_pos_right (by omega) (Nat.two_pow_pos _)
  obtain ⟨M, hM⟩ : ∃ M, M = 9223372036854775808 + intW n := ⟨_, rfl⟩
  obtain ⟨N, hN⟩ : ∃ N, N = 9223372036854775808 + X := ⟨_, rfl⟩
  have CC := Lib.hid (fun (W : World) => hM ▸ copysign_neg (intW n) (by omega) W)
  have CM := Lib.hid (fun (W : World) (h : St w W) => hM ▸ text_neg (intW n) n (by omega) hv1 hv2 (by omega) h)
  have CX := Lib.hid (fun (W : World) (h : St w W) => text_pos X n (by omega) h1 h2 hXb h)
  have CXN := Lib.hid (fun (W : World) (h : St w W) => hN ▸ text_neg X n (by omega) h1 h2 hXb h)
  have hneg : Op.unary .neg (.float .f64 X) = pure (.float .f64 N) := by
    rw [hN, ← xor_sign (by omega)]; rfl
  have hmul : floatBits .mul .f64 X 0 = some 0 := mul_zero (by omega)
  clear hM hN hv1 hv2 h1 h2 hXb hwl
  have q1 := fun W => run_float_arith (P := Tryd.prog) W .quo 24 .f64 _ _ _ hq
  have q2 := fun W => run_float_arith (P := Tryd.prog) W .add 24 .f64 _ _ _ hadd
  have q3 := fun W => run_float_arith (P := Tryd.prog) W .quo 24 .f64 4607182418800017408 0 9218868437227405312 (by decide)
  have q4 := fun W => run_float_arith (P := Tryd.prog) W .mul 24 .f64 _ _ _ hmul
  clear hq hadd hmul
  have hlen : (Lib.itoa (n : Int)).length ≤ 21 := Lib.itoa_length_le _ (by omega) (by omega)
  by_cases h999 : p = 999
  · rw [if_pos h999] at hX
    have hb : ((p : Int) == 999) = true := by rw [h999]; rfl
    clear h999
    subst hX
    go_enter Tryd.func4, Tryd.ntmps4
    go_wp2_with (first | (go_at_call 11; first | ((with_reducible refine (CN.out _).mono ?_); rintro e w' ⟨rfl, rfl⟩) | ((with_reducible refine (CP.out _).mono ?_); rintro e w' ⟨rfl, rfl⟩)) | (go_at_call 18; (with_reducible refine (CI.out _ S.out).mono ?_); rintro e w1 ⟨rfl, hs⟩; have S := Lib.hid hs; clear hs) | (go_at_call 16; first | ((with_reducible refine (CX.out _ S.out).mono ?_); rintro e w1 ⟨rfl, hs⟩; have S := Lib.hid hs; clear hs) | ((with_reducible refine (CXN.out _ S.out).mono ?_); rintro e w1 ⟨rfl, hs⟩; have S := Lib.hid hs; clear hs) | ((with_reducible refine (CM.out _ S.out).mono ?_); rintro e w1 ⟨rfl, hs⟩; have S := Lib.hid hs; clear hs) | ((with_reducible refine (CZ.out _ S.out).mono ?_); rintro e w1 ⟨rfl, hs⟩; have S := Lib.hid hs; clear hs) | ((with_reducible refine (text_inf _).mono ?_); rintro e w1 ⟨rfl, rfl⟩)) | (go_at_call 19; (with_reducible refine (CC.out _).mono ?_); rintro e w1 ⟨rfl, rfl⟩) | (go_at_call 17; refine (awake_any _).mono ?_; rintro e w3 ⟨rfl, hb3⟩))
    go_ret
    exact ⟨rfl, below_next S.out.1 hb3⟩
  · rw [if_neg h999] at hX
    have hb : ((p : Int) == 999) = false := by rw [beq_eq_false_iff_ne]; omega
    clear h999
    subst hX
    go_enter Tryd.func4, Tryd.ntmps4
    go_wp2_with (first | (go_at_call 11; first | ((with_reducible refine (CN.out _).mono ?_); rintro e w' ⟨rfl, rfl⟩) | ((with_reducible refine (CP.out _).mono ?_); rintro e w' ⟨rfl, rfl⟩)) | (go_at_call 18; (with_reducible refine (CI.out _ S.out).mono ?_); rintro e w1 ⟨rfl, hs⟩; have S := Lib.hid hs; clear hs) | (go_at_call 16; first | ((with_reducible refine (CX.out _ S.out).mono ?_); rintro e w1 ⟨rfl, hs⟩; have S := Lib.hid hs; clear hs) | ((with_reducible refine (CXN.out _ S.out).mono ?_); rintro e w1 ⟨rfl, hs⟩; have S := Lib.hid hs; clear hs) | ((with_reducible refine (CM.out _ S.out).mono ?_); rintro e w1 ⟨rfl, hs⟩; have S := Lib.hid hs; clear hs) | ((with_reducible refine (CZ.out _ S.out).mono ?_); rintro e w1 ⟨rfl, hs⟩; have S := Lib.hid hs; clear hs) | ((with_reducible refine (text_inf _).mono ?_); rintro e w1 ⟨rfl, rfl⟩)) | (go_at_call 19; (with_reducible refine (CC.out _).mono ?_); rintro e w1 ⟨rfl, rfl⟩) | (go_at_call 17; refine (awake_any _).mono ?_; rintro e w3 ⟨rfl, hb3⟩))
    go_ret
    exact ⟨rfl, below_next S.out.1 hb3⟩

theorem texts_any (a0 a1 : Int) (w : World) (htab : Lib.TabIs Tryd.prog w "internal/strconv.uint64pow10" .u64 Lib.pow10Tab) :
    Calls Tryd.prog 4 #[.int .i64 a0, .int .i64 a1] w fun e w' => e = .returned (.bool true) ∧ Below w.heap.size w w' := by
  obtain ⟨n, hn, cn⟩ := low_any a0 1000000 (by omega) (by omega)
  obtain ⟨p, hp, cp⟩ := low_any a1 1000 (by omega) (by omega)
  have hwl := intW_lt (k := n) (by omega)
  by_cases h999 : p = 999
  · obtain ⟨T, c, _, hadd⟩ := Fl.add_pos (r := intW n) (s := shr p 1000) (by omega) (shr_fin (by omega) (by omega) (by omega))
    refine texts_core n p (intW n) _ a0 a1 (by omega) (by omega) cn cp hadd (by rw [if_pos h999]) ?_ ?_ (by omega) w htab
    · rw [intW_V (by omega)]; exact Nat.le_refl _
    · rw [intW_V (by omega)]; exact Nat.mul_lt_mul_of_pos_right (by omega) (Nat.two_pow_pos _)
  · obtain ⟨X, hadd, h1, h2⟩ := sum_whole (n := n) (part := p) (by omega) (by omega)
    have hX : X < 4741671816366391297 := by
      have h3 : V X < V (intW (n + 1)) := by rw [intW_V (by omega)]; exact h2
      have := lt_of_V h3
      have := intW_lt (k := n + 1) (by omega)
      omega
    exact texts_core n p X X a0 a1 (by omega) (by omega) cn cp hadd (by rw [if_neg h999]) h1 h2 hX w htab
end Go.Proofs.YtgcoodameahkbaaDoor.Fl
