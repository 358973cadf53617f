/- What Text answers of every word, the program's and the reference's. -/
import Derived.Test.YtgcoodameahkbaaDoorStTA
import Derived.Lib.ItoaMem
import Derived.Laws.IdiomStrings
namespace Go.Proofs.YtgcoodameahkbaaDoor.Fl
set_option linter.unusedVariables false
set_option linter.unusedSimpArgs false
open Go.RowKit Go.Proofs.YtgcoodameahkbaaDoor.Stable Ieee

/-! what Text asks, of any word -/
theorem rung_53 : rungOf 9007199254740992 0 = 4845873199050653696 := by decide
theorem rung_lt53 {k : Nat} (hk : k ≠ 0) (h : k < 9007199254740992) : rungOf k 0 < 4845873199050653696 := by
  have h1 := log2_lt53 hk h
  have h2 := mant_b hk h
  rw [rung_int hk h]
  omega
theorem rung_ge53 {k : Nat} (h : 9007199254740992 ≤ k) : 4845873199050653696 ≤ rungOf k 0 := by
  rw [← rung_53]
  refine rung_mono (c := cc) (by omega) (by omega) (by omega) (by omega) (by rw [cc_eq]; omega) ?_
  exact Nat.mul_le_mul_right _ h
theorem intW_lt53 {k : Nat} (h : k < 9007199254740992) : intW k < 4845873199050653696 := by
  unfold intW
  split
  · omega
  · rename_i e; exact rung_lt53 e h
theorem intW_V53 {n : Nat} (hn : n < 9007199254740992) : V (intW n) = n * 2 ^ cc := by
  unfold intW
  split
  · rename_i e; subst e; rw [Nat.zero_mul]; decide
  · rename_i e
    rw [V_exact e hn (by omega), show ((0 : Int) + 1074).toNat = cc from rfl]
theorem V_53 : V 4845873199050653696 = 9007199254740992 * 2 ^ cc := by
  unfold V
  rw [if_neg (by omega), show 4845873199050653696 % 4503599627370496 = 0 by decide, show 4845873199050653696 / 4503599627370496 - 1 = 1 + cc from rfl, Nat.add_zero, Nat.pow_add, ← Nat.mul_assoc]

/-- the whole part of a word's value -/
def wholeB (r : Nat) : Nat := V r / 2 ^ cc
theorem wholeB_b (r : Nat) : wholeB r * 2 ^ cc ≤ V r ∧ V r < (wholeB r + 1) * 2 ^ cc := by
  unfold wholeB
  have h := Nat.div_add_mod (V r) (2 ^ cc)
  have h2 := Nat.mod_lt (V r) (Nat.two_pow_pos cc)
  rw [Nat.add_mul, Nat.one_mul, Nat.mul_comm]
  generalize 2 ^ cc = P at *
  omega

theorem geF (a b : Nat) (ha : a < 9218868437227405313) (hb : b < 9218868437227405312) : (FloatKind.f64.format.order a b == some .gt || FloatKind.f64.format.order a b == some .eq) = decide (b ≤ a) := by
  have n1 : nanB a = false := by have := mt (nan_iff (b := a) (by omega)).1 (by omega); simpa using this
  have n2 : nanB b = false := by have := mt (nan_iff (b := b) (by omega)).1 (by omega); simpa using this
  rw [order_sv (by omega) (by omega) n1 n2]
  have e1 : sv a = a := by unfold sv; rw [if_neg (by omega)]
  have e2 : sv b = b := by unfold sv; rw [if_neg (by omega)]
  rw [e1, e2]
  rcases Nat.lt_trichotomy a b with h | h | h
  · rw [Int.compare_eq_lt.2 (by omega), decide_eq_false (by omega)]; rfl
  · rw [Int.compare_eq_eq.2 (by omega), decide_eq_true (by omega)]; rfl
  · rw [Int.compare_eq_gt.2 (by omega), decide_eq_true (by omega)]; rfl
theorem gtF (a b : Nat) (ha : a < 9218868437227405313) (hb : b < 9218868437227405312) : (FloatKind.f64.format.order a b == some .gt) = decide (b < a) := by
  have n1 : nanB a = false := by have := mt (nan_iff (b := a) (by omega)).1 (by omega); simpa using this
  have n2 : nanB b = false := by have := mt (nan_iff (b := b) (by omega)).1 (by omega); simpa using this
  rw [order_sv (by omega) (by omega) n1 n2]
  have e1 : sv a = a := by unfold sv; rw [if_neg (by omega)]
  have e2 : sv b = b := by unfold sv; rw [if_neg (by omega)]
  rw [e1, e2]
  rcases Nat.lt_trichotomy a b with h | h | h
  · rw [Int.compare_eq_lt.2 (by omega), decide_eq_false (by omega)]; rfl
  · rw [Int.compare_eq_eq.2 (by omega), decide_eq_false (by omega)]; rfl
  · rw [Int.compare_eq_gt.2 (by omega), decide_eq_true (by omega)]; rfl

theorem nearest_min (n : Nat) : double.nearest false n 0 = min (intW n) 9218868437227405312 := by
  unfold intW
  by_cases e : n = 0
  · subst e
    rw [if_pos rfl, Nat.min_eq_left (Nat.zero_le _)]
    unfold Format.nearest Format.word
    rw [if_pos rfl, if_neg Bool.false_ne_true]
  · rw [if_neg e, nearest_eq false e]
    unfold Format.word
    rw [if_neg Bool.false_ne_true]
theorem trunc_min {r : Nat} (hf : r < 9218868437227405312) : truncB r = min (intW (wholeB r)) 9218868437227405312 := by
  obtain ⟨h1, h2⟩ := wholeB_b r
  obtain ⟨m, i, hread, hcut⟩ := whole_of hf h1 h2
  show double.write ((double.read r).integral .zero) = _
  rw [hread]
  unfold Datum.integral
  simp only []
  rw [hcut]
  show double.nearest false (wholeB r) 0 = _
  clear h1 h2 hcut hread
  exact nearest_min (wholeB r)
theorem ge_div {P x k : Nat} (hP : 0 < P) (h : k * P ≤ x) : k ≤ x / P := (Nat.le_div_iff_mul_le hP).2 h
theorem whole_ge (r : Nat) : 4845873199050653696 ≤ r ↔ 9007199254740992 ≤ wholeB r := by
  have hp := Nat.two_pow_pos cc
  have hV := V_53
  obtain ⟨h1, h2⟩ := wholeB_b r
  have hd : ∀ k, k * 2 ^ cc ≤ V r → k ≤ wholeB r := fun k h => ge_div hp h
  generalize 2 ^ cc = P at *
  constructor
  · intro h
    have := V_le h
    rw [hV] at this
    exact hd _ this
  · intro h
    have h3 : 9007199254740992 * P ≤ V r := Nat.le_trans (Nat.mul_le_mul_right _ h) h1
    rw [← hV] at h3
    by_cases c : 4845873199050653696 ≤ r
    · exact c
    · have := V_lt (show r < 4845873199050653696 by omega); omega
theorem int_of {r n : Nat} (hn : n < 9007199254740992) (hf : r < 9218868437227405312) (h1 : n * 2 ^ cc ≤ V r) (h2 : V r < (n + 1) * 2 ^ cc) : (FloatKind.f64.decode r).toInt .zero = some (n : Int) := by
  obtain ⟨m, i, hread, hcut⟩ := whole_of hf h1 h2
  show (double.read r).toInt .zero = _
  rw [hread]
  unfold Datum.toInt Datum.integral
  simp only []
  rw [hcut]
  simp [signed]
theorem fit_i64 {r n : Nat} (hn : n < 9007199254740992) (h : (FloatKind.f64.decode r).toInt .zero = some (n : Int)) : floatToIntVal .f64 r .i64 = some (n : Int) := by
  unfold floatToIntVal
  rw [h]
  simp only []
  rw [if_pos]
  simp only [IntKind.min, IntKind.max, IntKind.signed, IntKind.bits]
  omega
theorem fit_u64 {r n : Nat} (hn : n < 9007199254740992) (h : (FloatKind.f64.decode r).toInt .zero = some (n : Int)) : floatToIntVal .f64 r .u64 = some (n : Int) := by
  unfold floatToIntVal
  rw [h]
  simp only []
  rw [if_pos]
  simp only [IntKind.min, IntKind.max, IntKind.signed, IntKind.bits]
  omega
theorem dec_fin {r : Nat} (hf : r < 9218868437227405312) : ∀ s t, FloatKind.f64.decode r ≠ .nan s t := by
  intro s t hc
  obtain ⟨m, a, h1, _⟩ := read_pos hf
  have : double.read r = .nan s t := hc
  rw [h1] at this
  cases this
theorem many_f {r : Nat} (hf : r < 9218868437227405312) : (FloatKind.f64.format.order (truncB r) 4845873199050653696 == some .gt || FloatKind.f64.format.order (truncB r) 4845873199050653696 == some .eq) = decide (9007199254740992 ≤ wholeB r) := by
  have htr := trunc_min hf
  have h53 : wholeB r < 9007199254740992 → intW (wholeB r) < 4845873199050653696 := fun h => intW_lt53 h
  have g53 : 9007199254740992 ≤ wholeB r → 4845873199050653696 ≤ intW (wholeB r) := fun h => by
    unfold intW
    rw [if_neg (by omega)]
    exact rung_ge53 h
  generalize wholeB r = n at *
  generalize intW n = q at *
  rw [geF _ _ (by rw [htr]; omega) (by omega), htr]
  apply decide_eq_decide.mpr
  omega
theorem rmany_f {r : Nat} (hf : r < 9218868437227405312) : (FloatKind.f64.format.order r 4845873199050653696 == some .gt || FloatKind.f64.format.order r 4845873199050653696 == some .eq) = decide (9007199254740992 ≤ wholeB r) := by
  rw [geF _ _ (by omega) (by omega)]
  exact decide_eq_decide.mpr (whole_ge r)
theorem int_f {r : Nat} (hf : r < 9218868437227405312) (hn : wholeB r < 9007199254740992) : floatToIntVal .f64 (truncB r) .i64 = some (wholeB r : Int) := by
  have hlt := intW_lt53 hn
  rw [trunc_min hf, Nat.min_eq_left (by omega)]
  have hV := intW_V53 hn
  refine fit_i64 hn (int_of hn (by omega) ?_ ?_)
  · rw [hV]; exact Nat.le_refl _
  · rw [hV]; exact Nat.mul_lt_mul_of_pos_right (Nat.lt_succ_self _) (Nat.two_pow_pos _)
theorem rint_f {r : Nat} (hf : r < 9218868437227405312) (hn : wholeB r < 9007199254740992) : floatToIntVal .f64 r .u64 = some (wholeB r : Int) :=
  fit_u64 hn (int_of hn hf (wholeB_b r).1 (wholeB_b r).2)
theorem inf_f {r : Nat} (hf : r < 9218868437227405312) : (FloatKind.f64.format.order r 9218868437227405311 == some .gt) = false := by
  rw [gtF _ _ (by omega) (by omega), decide_eq_false (by omega)]
end Go.Proofs.YtgcoodameahkbaaDoor.Fl
namespace Go.Proofs.YtgcoodameahkbaaDoor.Fl
set_option linter.unusedVariables false
set_option linter.unusedSimpArgs false
open Go.RowKit Go.Proofs.YtgcoodameahkbaaDoor.Stable

/-- Trunc of whatever word: some word. -/
theorem run_trunc_some (b : Nat) (W : World) : ∃ r q, (callFunc 48 #[.float .f64 b]).run Tryd.prog W = .ok (.value (.float .f64 r)) (W.drewN q) := by
  rw [run_callFunc_extern Tryd.func48 (by kernel_rfl) (by kernel_rfl) (by kernel_rfl) (e := Extern.MathFloor.toIntegral "math.archTrunc" .zero) (by kernel_rfl)]
  have e : Extern.MathFloor.toIntegral "math.archTrunc" .zero #[.float .f64 b] = (match FloatKind.f64.decode b with
    | .nan s t =>
      if FloatKind.f64.format.quiet t = t then (pure (Value.float .f64 b) : Sem Value) else do
      let kept ← choose (.extern "math.Floor,Ceil,Trunc,RoundToEven.signallingNaN kept" 2)
      pure (Value.float .f64 (if kept == 1 then b else FloatKind.f64.encode (.nan s (FloatKind.f64.format.quiet t))))
    | d => pure (Value.float .f64 (FloatKind.f64.encode (d.integral .zero)))) := rfl
  rw [e]
  cases FloatKind.f64.decode b with
  | number s m p => exact ⟨_, 0, rfl⟩
  | infinity s => exact ⟨_, 0, rfl⟩
  | nan s t =>
    simp only
    by_cases hq : FloatKind.f64.format.quiet t = t
    · rw [if_pos hq]; exact ⟨_, 0, rfl⟩
    · rw [if_neg hq]
      have hf : (Question.extern "math.Floor,Ceil,Trunc,RoundToEven.signallingNaN kept" 2).forced = false := by kernel_rfl
      have hr := run_choose_drew Tryd.prog W (.extern "math.Floor,Ceil,Trunc,RoundToEven.signallingNaN kept" 2)
      rw [hf, if_neg Bool.false_ne_true] at hr
      rw [Sem.run_bind, hr]
      exact ⟨_, 1, rfl⟩
theorem trunc_some (b : Nat) (W : World) : Calls Tryd.prog 41 #[.float .f64 b] W fun e w' => ∃ r q, e = .returned (.float .f64 r) ∧ w' = W.drewN q := by
  obtain ⟨r, q, hr⟩ := run_trunc_some b W
  have HE : Aside (∃ r' q', Ending.returned (.float .f64 r) = .returned (.float .f64 r') ∧ W.drewN q = W.drewN q') := ⟨r, q, rfl, rfl⟩
  go_enter Tryd.func41, Tryd.ntmps41
  go_wp2
  clear hr
  go_ret
  exact HE.out
/-- the text of a word -/
def textB (x : Nat) : ByteArray :=
  if nanB x then ⟨#[110, 97, 110]⟩ else if absB x = 9218868437227405312 then signT x ++ ⟨#[105, 110, 102]⟩
  else if 9007199254740992 ≤ wholeB (absB x) then ⟨#[109, 97, 110, 121]⟩ else signT x ++ ⟨(Lib.itoa (wholeB (absB x) : Int)).toArray⟩

theorem abs_lt (x : Nat) : absB x < 9223372036854775808 := Nat.mod_lt _ (by decide)
theorem abs_fin {x : Nat} (hx : x < 18446744073709551616) (h : nanB x = false) : absB x ≤ 9218868437227405312 := by
  have := mt (nan_iff hx).2 (by rw [h]; decide)
  unfold absB; omega
theorem inf_f1 (r : Nat) (h : r ≤ 9218868437227405312) : (FloatKind.f64.format.order r 9218868437227405311 == some .gt) = decide (r = 9218868437227405312) := by
  rw [gtF _ _ (by omega) (by omega)]
  exact decide_eq_decide.mpr (by omega)
theorem infT_size : (⟨#[105, 110, 102]⟩ : ByteArray).size = 3 := rfl

set_option maxHeartbeats 1000000 in
/-- score.Text. -/
theorem text_all (x : Nat) (hx : x < 18446744073709551616) (w : World) (htab : Lib.TabIs Tryd.prog w "internal/strconv.uint64pow10" .u64 Lib.pow10Tab) :
    Calls Tryd.prog 16 #[.float .f64 x] w fun e w' => e = .returned (.string (textB x)) ∧ Below w.heap.size w w' := by
  cases hn : nanB x
  · have ha := abs_fin hx hn
    by_cases hinf : absB x = 9218868437227405312
    · have HE : Hid (textB x = signT x ++ ⟨#[105, 110, 102]⟩) := by show _ = _; unfold textB; rw [hn, if_neg Bool.false_ne_true, if_pos hinf]
      have HN := Lib.hid hn
      have HI := Lib.hid (inf_f1 (absB x) ha)
      have HI2 := Lib.hid hinf
      clear hn hinf htab
      cases hs : sgnB x
      · have HS := Lib.hid hs
        have HST : Hid (signT x = ⟨#[43]⟩) := by show _ = _; unfold signT; rw [hs]; rfl
        clear hs
        go_enter Tryd.func16, Tryd.ntmps16
        go_wp2_with (first | (go_at_call 40; refine (signbit_any _ (by assumption) _).mono ?_; rintro e w' ⟨rfl, rfl⟩; rw [HS.out]) | (go_at_call 39; refine (abs_any _ (by assumption) _).mono ?_; rintro e w' ⟨rfl, rfl⟩) | (go_at_call 41; refine (trunc_some _ _).mono ?_; rintro e w' ⟨r, q, rfl, rfl⟩) | (go_at_call 15; refine (isNaN_any _ _).mono ?_; rintro e w' ⟨rfl, rfl⟩; rw [HN.out]) | (go_at_call 14; refine (isInf_zero _ (by assumption) _).mono ?_; rintro e w' ⟨rfl, rfl⟩; rw [HI.out, decide_eq_true HI2.out]))
        go_ret
        exact ⟨by rw [HE.out, HST.out]; rfl, ⟨rfl, rfl, rfl, Nat.le_refl _, fun _ _ => rfl⟩⟩
      · have HS := Lib.hid hs
        have HST : Hid (signT x = ⟨#[45]⟩) := by show _ = _; unfold signT; rw [hs]; rfl
        clear hs
        go_enter Tryd.func16, Tryd.ntmps16
        go_wp2_with (first | (go_at_call 40; refine (signbit_any _ (by assumption) _).mono ?_; rintro e w' ⟨rfl, rfl⟩; rw [HS.out]) | (go_at_call 39; refine (abs_any _ (by assumption) _).mono ?_; rintro e w' ⟨rfl, rfl⟩) | (go_at_call 41; refine (trunc_some _ _).mono ?_; rintro e w' ⟨r, q, rfl, rfl⟩) | (go_at_call 15; refine (isNaN_any _ _).mono ?_; rintro e w' ⟨rfl, rfl⟩; rw [HN.out]) | (go_at_call 14; refine (isInf_zero _ (by assumption) _).mono ?_; rintro e w' ⟨rfl, rfl⟩; rw [HI.out, decide_eq_true HI2.out]))
        go_ret
        exact ⟨by rw [HE.out, HST.out]; rfl, ⟨rfl, rfl, rfl, Nat.le_refl _, fun _ _ => rfl⟩⟩
    · have hf : absB x < 9218868437227405312 := by omega
      by_cases hm : 9007199254740992 ≤ wholeB (absB x)
      · have HE : Hid (textB x = ⟨#[109, 97, 110, 121]⟩) := by show _ = _; unfold textB; rw [hn, if_neg Bool.false_ne_true, if_neg hinf, if_pos hm]
        have HN := Lib.hid hn
        have HI := Lib.hid (inf_f hf)
        have HD := Lib.hid (dec_fin hf)
        have hmany : (FloatKind.f64.format.order (truncB (absB x)) 4845873199050653696 == some .gt || FloatKind.f64.format.order (truncB (absB x)) 4845873199050653696 == some .eq) = true := by rw [many_f hf, decide_eq_true hm]
        clear hn hinf htab hm hf ha
        cases hs : sgnB x
        all_goals
          have HS := Lib.hid hs
          clear hs
          go_enter Tryd.func16, Tryd.ntmps16
          go_wp2_with (first | (go_at_call 40; refine (signbit_any _ (by assumption) _).mono ?_; rintro e w' ⟨rfl, rfl⟩; rw [HS.out]) | (go_at_call 39; refine (abs_any _ (by assumption) _).mono ?_; rintro e w' ⟨rfl, rfl⟩) | (go_at_call 41; refine (trunc_num _ _ HD.out).mono ?_; rintro e w' ⟨rfl, rfl⟩) | (go_at_call 15; refine (isNaN_any _ _).mono ?_; rintro e w' ⟨rfl, rfl⟩; rw [HN.out]) | (go_at_call 14; refine (isInf_zero _ (by assumption) _).mono ?_; rintro e w' ⟨rfl, rfl⟩; rw [HI.out]))
          go_ret
          exact ⟨by rw [HE.out]; rfl, ⟨rfl, rfl, rfl, Nat.le_refl _, fun _ _ => rfl⟩⟩
      · have E : textB x = signT x ++ ⟨(Lib.itoa (wholeB (absB x) : Int)).toArray⟩ := by unfold textB; rw [hn, if_neg Bool.false_ne_true, if_neg hinf, if_neg hm]
        rw [E]
        exact text_num x (wholeB (absB x) : Int) hx hn (inf_f hf) (dec_fin hf) (by rw [many_f hf, decide_eq_false hm]) (int_f hf (by omega)) (by omega) (by omega) w htab
  · have HE : Hid (textB x = ⟨#[110, 97, 110]⟩) := by show _ = _; unfold textB; rw [hn]; rfl
    have HN := Lib.hid hn
    clear hn htab
    cases hs : sgnB x
    all_goals
      have HS := Lib.hid hs
      clear hs
      go_enter Tryd.func16, Tryd.ntmps16
      go_wp2_with (first | (go_at_call 40; refine (signbit_any _ (by assumption) _).mono ?_; rintro e w' ⟨rfl, rfl⟩; rw [HS.out]) | (go_at_call 39; refine (abs_any _ (by assumption) _).mono ?_; rintro e w' ⟨rfl, rfl⟩) | (go_at_call 41; refine (trunc_some _ _).mono ?_; rintro e w' ⟨r, q, rfl, rfl⟩) | (go_at_call 15; refine (isNaN_any _ _).mono ?_; rintro e w' ⟨rfl, rfl⟩; rw [HN.out]))
      go_ret
      exact ⟨by rw [HE.out]; rfl, ⟨rfl, rfl, rfl, Nat.le_refl _, fun _ _ => rfl⟩⟩
end Go.Proofs.YtgcoodameahkbaaDoor.Fl
namespace Go.Proofs.YtgcoodameahkbaaDoor.Fl
set_option linter.unusedVariables false
set_option linter.unusedSimpArgs false
open Go.RowKit Go.Proofs.YtgcoodameahkbaaDoor.Stable

theorem conv_byte (W : World) (d : UInt8) : (convert 61 9 (.slice (some ⟨W.heap.size, 0, none⟩) 1 1)).run Tryd.prog (W.alloc (.cells #[.int .u8 (d.toNat : Int)] 5)) = .ok (.string ⟨#[d]⟩) (W.alloc (.cells #[.int .u8 (d.toNat : Int)] 5)) :=
  run_convert_bytes_back _ 61 9 5 ⟨W.heap.size, 0, none⟩ 1 [d] Tryd.underlying61 Tryd.underlying5 Tryd.underlying9 fun j hj => by
    obtain rfl : j = 0 := by simp at hj; omega
    exact new_cell W _ 5 0 _ rfl

theorem dig_len (n : Nat) (h : n < 9007199254740992) : (Lib.decDigits n).length ≤ 21 := by
  have := Lib.itoa_length_le (n : Int) (by omega) (by omega)
  rwa [Lib.itoa_nonneg] at this
theorem dig_step (m : Nat) (hm : m ≠ 0) : (Lib.decDigits m).length = if m / 10 = 0 then 1 else (Lib.decDigits (m / 10)).length + 1 := by
  by_cases c : m < 10
  · rw [if_pos (by omega), Lib.decDigits, dif_pos c]; rfl
  · rw [if_neg (by omega), Lib.decDigits, dif_neg c]; simp

/-- Where the digits stand: m is left, s is written. -/
def DigAt (N m : Nat) (s : List UInt8) : Prop := (s = [] ∧ m = N) ∨ (s ≠ [] ∧ (if m = 0 then s = Lib.decDigits N else Lib.decDigits m ++ s = Lib.decDigits N))
theorem DigAt.step {N m : Nat} {s : List UInt8} (h : DigAt N m s) (hc : 0 < m ∨ s = []) : DigAt N (m / 10) (UInt8.ofNat (48 + m % 10) :: s) := by
  refine .inr ⟨by simp, ?_⟩
  have hd : Lib.decDigits m ++ s = Lib.decDigits N := by
    rcases h with ⟨rfl, rfl⟩ | ⟨h1, h2⟩
    · simp
    · rw [if_neg (by rcases hc with hc | hc; omega; exact absurd hc h1)] at h2; exact h2
  by_cases c : m < 10
  · rw [if_pos (by omega), ← hd]
    rw [show Lib.decDigits m = [UInt8.ofNat (48 + m)] by rw [Lib.decDigits, dif_pos c], show m % 10 = m by omega]; rfl
  · rw [if_neg (by omega), ← hd]
    rw [show Lib.decDigits m = Lib.decDigits (m / 10) ++ [UInt8.ofNat (48 + m % 10)] by rw [Lib.decDigits, dif_neg c]]
    simp
theorem DigAt.fin {N : Nat} {s : List UInt8} (h : DigAt N 0 s) (hs : s ≠ []) : s = Lib.decDigits N := by
  rcases h with ⟨h1, _⟩ | ⟨_, h2⟩
  · exact absurd h1 hs
  · rw [if_pos rfl] at h2; exact h2

set_option maxHeartbeats 1000000 in
set_option maxRecDepth 100000 in
theorem rtext_num (x N : Nat) (hx : x < 18446744073709551616) (hn : nanB x = false) (hinf : (FloatKind.f64.format.order (absB x) 9218868437227405311 == some .gt) = false)
    (hm : (FloatKind.f64.format.order (absB x) 4845873199050653696 == some .gt || FloatKind.f64.format.order (absB x) 4845873199050653696 == some .eq) = false)
    (hi : floatToIntVal .f64 (absB x) .u64 = some (N : Int)) (hN : N < 9007199254740992) (w : World) :
    Calls Tryd.prog 36 #[.float .f64 x] w fun e w' => e = .returned (.string (signT x ++ ⟨(Lib.decDigits N).toArray⟩)) ∧ Below w.heap.size w w' := by
  have hf := fun W => run_convert_float_int (P := Tryd.prog) W 24 38 .f64 .u64 (absB x) N (by kernel_rfl) Tryd.underlying38 hi
  have HN := Lib.hid hn
  have HI := Lib.hid hinf
  clear hi hn hinf
  cases hs : sgnB x
  all_goals
    have HS := Lib.hid hs
    have HST : Hid (signT x = if sgnB x then ⟨#[45]⟩ else ⟨#[43]⟩) := (rfl : signT x = _)
    clear hs
    go_enter Tryd.func36, Tryd.ntmps36
    go_wp2_with (first | (go_at_call 40; refine (signbit_any _ (by assumption) _).mono ?_; rintro e w' ⟨rfl, rfl⟩; rw [HS.out]) | (go_at_call 39; refine (abs_any _ (by assumption) _).mono ?_; rintro e w' ⟨rfl, rfl⟩) | (go_at_call 15; refine (isNaN_any _ _).mono ?_; rintro e w' ⟨rfl, rfl⟩; rw [HN.out]) | (go_at_call 14; refine (isInf_zero _ (by assumption) _).mono ?_; rintro e w' ⟨rfl, rfl⟩; rw [HI.out]))
    clear hf hm
    go_loopg [5, 6] (N + 1) (fun g1 v s wr => ∃ (m : Nat) (l : List UInt8), v = .int .u64 m ∧ s = .string ⟨l.toArray⟩ ∧ m ≤ N ∧ l.length + (if m = 0 then 0 else (Lib.decDigits m).length) ≤ 21 ∧ (if l = [] then N + 1 else m) ≤ g1 ∧ Aside (DigAt N m l) ∧ Aside (Below w.heap.size w wr))
    case atStart => exact ⟨N, [], rfl, rfl, by omega, by have := dig_len N (by omega); simp only [List.length_nil]; split <;> omega, by simp, .inl ⟨rfl, rfl⟩, Below.refl _ _⟩
    case round =>
      obtain ⟨m, l, rfl, rfl, hmN, hl, hg1, HD, HB⟩ := hrel
      by_cases hm0 : m = 0
      · subst hm0
        by_cases hl0 : l = []
        · subst hl0
          have kc2 : ∀ W : World, (convert 61 9 (.slice (some ⟨W.heap.size, 0, none⟩) 1 1)).run Tryd.prog (W.alloc (.cells #[.int .u8 48] 5)) = .ok (.string ⟨#[48]⟩) (W.alloc (.cells #[.int .u8 48] 5)) := fun W => conv_byte W 48
          have HD2 : Aside (DigAt N 0 [48]) := HD.out.step (.inr rfl)
          have HB2 : Aside (Below w.heap.size w (wr.alloc (.cells #[.int .u8 48] 5))) := HB.out.alloc HB.out.size _
          have hg2 : 0 < gk := by rw [if_pos rfl] at hg1; omega
          clear HD HB hg1
          go_wp2
          clear kc2
          generalize wr.alloc (.cells #[.int .u8 48] 5) = w7 at HB2 ⊢
          go_roundg 0
          case measure => omega
          case rel => exact ⟨0, [48], by first | rfl | go_num, by first | rfl | simp, by omega, by simp, by simp, HD2, HB2⟩
        · have hle : l.isEmpty = false := by cases l with
            | nil => exact absurd rfl hl0
            | cons a b => rfl
          have HE : Aside (l = Lib.decDigits N) := HD.out.fin hl0
          have hl20 : l.length ≤ 21 := by omega
          clear hl0 hl HD
          go_wp2
          go_ret
          exact ⟨by rw [HST.out, HS.out, ← HE.out]; rfl, HB.out⟩
      · obtain ⟨d, hd⟩ : ∃ d : UInt8, d = UInt8.ofNat (48 + m % 10) := ⟨_, rfl⟩
        have hdn : ((48 : Int) + (m : Int) % 10) = (d.toNat : Int) := by
          rw [hd, UInt8.toNat_ofNat']; omega
        have kc2 : ∀ W : World, (convert 61 9 (.slice (some ⟨W.heap.size, 0, none⟩) 1 1)).run Tryd.prog (W.alloc (.cells #[.int .u8 (48 + (m : Int) % 10)] 5)) = .ok (.string ⟨#[d]⟩) (W.alloc (.cells #[.int .u8 (48 + (m : Int) % 10)] 5)) := fun W => by rw [hdn]; exact conv_byte W d
        have HD2 : Aside (DigAt N (m / 10) (d :: l)) := by rw [hd]; exact HD.out.step (.inl (by omega))
        have HB2 : Aside (Below w.heap.size w (wr.alloc (.cells #[.int .u8 (48 + (m : Int) % 10)] 5))) := HB.out.alloc HB.out.size _
        have hlen := dig_step m hm0
        have hl2 : (d :: l).length + (if m / 10 = 0 then 0 else (Lib.decDigits (m / 10)).length) ≤ 21 := by
          rw [if_neg hm0] at hl
          simp only [List.length_cons]
          split
          · rename_i h; rw [if_pos h] at hlen; omega
          · rename_i h; rw [if_neg h] at hlen; omega
        have hg2 : m / 10 < gk := by split at hg1 <;> omega
        have hl20 : l.length ≤ 21 := by rw [if_neg hm0] at hl; omega
        have HL2 := Lib.hid hl2
        have hm1 : (0 : Int) < (m : Int) := by omega
        clear hd hdn HD HB hg1 hl hl2 hlen
        go_wp2
        clear kc2
        generalize wr.alloc (.cells #[.int .u8 (48 + (m : Int) % 10)] 5) = w7 at HB2 ⊢
        go_roundg (m / 10)
        case measure => omega
        case rel => exact ⟨m / 10, d :: l, by first | rfl | go_num | (congr 1; omega), by first | rfl | simp, by omega, HL2.out, by simp, HD2, HB2⟩

/-- purlinref1.Text. -/
theorem rtext_all (x : Nat) (hx : x < 18446744073709551616) (w : World) : Calls Tryd.prog 36 #[.float .f64 x] w fun e w' => e = .returned (.string (textB x)) ∧ Below w.heap.size w w' := by
  cases hn : nanB x
  · have ha := abs_fin hx hn
    by_cases hinf : absB x = 9218868437227405312
    · have HE : Hid (textB x = signT x ++ ⟨#[105, 110, 102]⟩) := by show _ = _; unfold textB; rw [hn, if_neg Bool.false_ne_true, if_pos hinf]
      have HN := Lib.hid hn
      have HI := Lib.hid (inf_f1 (absB x) ha)
      have HI2 := Lib.hid hinf
      clear hn hinf
      cases hs : sgnB x
      · have HS := Lib.hid hs
        have HST : Hid (signT x = ⟨#[43]⟩) := by show _ = _; unfold signT; rw [hs]; rfl
        clear hs
        go_enter Tryd.func36, Tryd.ntmps36
        go_wp2_with (first | (go_at_call 40; refine (signbit_any _ (by assumption) _).mono ?_; rintro e w' ⟨rfl, rfl⟩; rw [HS.out]) | (go_at_call 39; refine (abs_any _ (by assumption) _).mono ?_; rintro e w' ⟨rfl, rfl⟩) | (go_at_call 15; refine (isNaN_any _ _).mono ?_; rintro e w' ⟨rfl, rfl⟩; rw [HN.out]) | (go_at_call 14; refine (isInf_zero _ (by assumption) _).mono ?_; rintro e w' ⟨rfl, rfl⟩; rw [HI.out, decide_eq_true HI2.out]))
        go_ret
        exact ⟨by rw [HE.out, HST.out]; rfl, Below.refl _ _⟩
      · have HS := Lib.hid hs
        have HST : Hid (signT x = ⟨#[45]⟩) := by show _ = _; unfold signT; rw [hs]; rfl
        clear hs
        go_enter Tryd.func36, Tryd.ntmps36
        go_wp2_with (first | (go_at_call 40; refine (signbit_any _ (by assumption) _).mono ?_; rintro e w' ⟨rfl, rfl⟩; rw [HS.out]) | (go_at_call 39; refine (abs_any _ (by assumption) _).mono ?_; rintro e w' ⟨rfl, rfl⟩) | (go_at_call 15; refine (isNaN_any _ _).mono ?_; rintro e w' ⟨rfl, rfl⟩; rw [HN.out]) | (go_at_call 14; refine (isInf_zero _ (by assumption) _).mono ?_; rintro e w' ⟨rfl, rfl⟩; rw [HI.out, decide_eq_true HI2.out]))
        go_ret
        exact ⟨by rw [HE.out, HST.out]; rfl, Below.refl _ _⟩
    · have hf : absB x < 9218868437227405312 := by omega
      by_cases hm : 9007199254740992 ≤ wholeB (absB x)
      · have HE : Hid (textB x = ⟨#[109, 97, 110, 121]⟩) := by show _ = _; unfold textB; rw [hn, if_neg Bool.false_ne_true, if_neg hinf, if_pos hm]
        have HN := Lib.hid hn
        have HI := Lib.hid (inf_f hf)
        have hmany : (FloatKind.f64.format.order (absB x) 4845873199050653696 == some .gt || FloatKind.f64.format.order (absB x) 4845873199050653696 == some .eq) = true := by rw [rmany_f hf, decide_eq_true hm]
        clear hn hinf hm hf ha
        cases hs : sgnB x
        all_goals
          have HS := Lib.hid hs
          clear hs
          go_enter Tryd.func36, Tryd.ntmps36
          go_wp2_with (first | (go_at_call 40; refine (signbit_any _ (by assumption) _).mono ?_; rintro e w' ⟨rfl, rfl⟩; rw [HS.out]) | (go_at_call 39; refine (abs_any _ (by assumption) _).mono ?_; rintro e w' ⟨rfl, rfl⟩) | (go_at_call 15; refine (isNaN_any _ _).mono ?_; rintro e w' ⟨rfl, rfl⟩; rw [HN.out]) | (go_at_call 14; refine (isInf_zero _ (by assumption) _).mono ?_; rintro e w' ⟨rfl, rfl⟩; rw [HI.out]))
          go_ret
          exact ⟨by rw [HE.out]; rfl, Below.refl _ _⟩
      · have E : textB x = signT x ++ ⟨(Lib.decDigits (wholeB (absB x))).toArray⟩ := by unfold textB; rw [hn, if_neg Bool.false_ne_true, if_neg hinf, if_neg hm, Lib.itoa_nonneg]
        rw [E]
        exact rtext_num x (wholeB (absB x)) hx hn (inf_f hf) (by rw [rmany_f hf, decide_eq_false hm]) (rint_f hf (by omega)) (by omega) w
  · have HE : Hid (textB x = ⟨#[110, 97, 110]⟩) := by show _ = _; unfold textB; rw [hn]; rfl
    have HN := Lib.hid hn
    clear hn
    cases hs : sgnB x
    all_goals
      have HS := Lib.hid hs
      clear hs
      go_enter Tryd.func36, Tryd.ntmps36
      go_wp2_with (first | (go_at_call 40; refine (signbit_any _ (by assumption) _).mono ?_; rintro e w' ⟨rfl, rfl⟩; rw [HS.out]) | (go_at_call 39; refine (abs_any _ (by assumption) _).mono ?_; rintro e w' ⟨rfl, rfl⟩) | (go_at_call 15; refine (isNaN_any _ _).mono ?_; rintro e w' ⟨rfl, rfl⟩; rw [HN.out]))
      go_ret
      exact ⟨by rw [HE.out]; rfl, Below.refl _ _⟩
end Go.Proofs.YtgcoodameahkbaaDoor.Fl
