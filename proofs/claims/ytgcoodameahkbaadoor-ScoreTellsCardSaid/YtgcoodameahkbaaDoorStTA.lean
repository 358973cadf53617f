/- What the reference's Less, Alike, Clamp, Best, and OverInts, answer; what means and shares answer: words of one kind, whatever the tape gives where there is no number. -/
import Derived.Test.YtgcoodameahkbaaDoorStO8
namespace Go.Proofs.YtgcoodameahkbaaDoor.Fl
set_option linter.unusedVariables false
set_option linter.unusedSimpArgs false
open Go.RowKit

/-! the reference's Less, Alike, Clamp -/
def eqF (a b : Nat) : Bool := FloatKind.f64.format.order a b == some .eq
def rlessB (a b : Nat) : Bool := if nanB a || nanB b then nanB a && !nanB b else if eqF a b then sgnB a && !sgnB b else FloatKind.f64.format.order a b == some .lt
def ralikeB (a b : Nat) : Bool := nanB a && nanB b || eqF a b && (sgnB a == sgnB b)

theorem eqF_sv {a b : Nat} (ha : a < 18446744073709551616) (hb : b < 18446744073709551616) (h1 : nanB a = false) (h2 : nanB b = false) : eqF a b = decide (sv a = sv b) := by
  unfold eqF
  rw [order_sv ha hb h1 h2]
  rcases Int.lt_trichotomy (sv a) (sv b) with h | h | h
  · rw [Int.compare_eq_lt.2 h, decide_eq_false (by omega)]; rfl
  · rw [Int.compare_eq_eq.2 h, decide_eq_true h]; rfl
  · rw [Int.compare_eq_gt.2 h, decide_eq_false (by omega)]; rfl
theorem ltF_sv {a b : Nat} (ha : a < 18446744073709551616) (hb : b < 18446744073709551616) (h1 : nanB a = false) (h2 : nanB b = false) : (FloatKind.f64.format.order a b == some .lt) = decide (sv a < sv b) := by
  rw [order_sv ha hb h1 h2]
  rcases Int.lt_trichotomy (sv a) (sv b) with h | h | h
  · rw [Int.compare_eq_lt.2 h, decide_eq_true h]; rfl
  · rw [Int.compare_eq_eq.2 h, decide_eq_false (by omega)]; rfl
  · rw [Int.compare_eq_gt.2 h, decide_eq_false (by omega)]; rfl
theorem rless_eq {a b : Nat} (ha : a < 18446744073709551616) (hb : b < 18446744073709551616) : rlessB a b = lessB a b := by
  unfold rlessB
  cases h1 : nanB a <;> cases h2 : nanB b
  · simp only [Bool.or_self, Bool.false_eq_true, if_false]
    rw [eqF_sv ha hb h1 h2, ltF_sv ha hb h1 h2, Bool.eq_iff_iff, less_rank ha hb]
    unfold rank
    rw [h1, h2]
    simp only [Bool.false_eq_true, if_false]
    unfold sgnB sv
    by_cases s1 : 9223372036854775808 ≤ a <;> by_cases s2 : 9223372036854775808 ≤ b
    all_goals simp only [s1, s2, if_true, if_false, decide_true, decide_false, Bool.not_true, Bool.not_false, Bool.and_true, Bool.and_false, decide_eq_true_eq]
    all_goals split <;> simp only [decide_eq_true_eq, Bool.false_eq_true, true_iff, false_iff] <;> omega
  · simp [lessB, h1, h2]
  · simp [lessB, h1, h2]
  · simp [lessB, h1, h2]
theorem ralike_eq {a b : Nat} (ha : a < 18446744073709551616) (hb : b < 18446744073709551616) : ralikeB a b = alikeB a b := by
  rw [Bool.eq_iff_iff, alike_rank ha hb]
  unfold ralikeB
  cases h1 : nanB a <;> cases h2 : nanB b
  · simp only [Bool.false_and, Bool.false_or]
    rw [eqF_sv ha hb h1 h2]
    unfold rank
    rw [h1, h2]
    simp only [Bool.false_eq_true, if_false]
    unfold sgnB sv
    by_cases s1 : 9223372036854775808 ≤ a <;> by_cases s2 : 9223372036854775808 ≤ b
    all_goals simp only [s1, s2, if_true, if_false, decide_true, decide_false, Bool.and_eq_true, decide_eq_true_eq, beq_self_eq_true, and_true, Bool.false_eq_true, beq_iff_eq, reduceCtorEq, and_false, false_iff]
    all_goals omega
  · have e : eqF a b = false := by
      obtain ⟨s, t, hr⟩ := read_of_nan h2
      unfold eqF
      show (Ieee.double.order a b == _) = _
      unfold Ieee.Format.order
      rw [hr]
      cases Ieee.double.read a <;> rfl
    rw [e]
    have := mt (nan_rank ha).2 (by rw [h1]; decide)
    rw [(nan_rank hb).1 h2]
    simpa using this
  · have e : eqF a b = false := by
      obtain ⟨s, t, hr⟩ := read_of_nan h1
      unfold eqF
      show (Ieee.double.order a b == _) = _
      unfold Ieee.Format.order
      rw [hr]
      cases Ieee.double.read b <;> rfl
    rw [e]
    have := mt (nan_rank hb).2 (by rw [h2]; decide)
    rw [(nan_rank ha).1 h1]
    simp
    omega
  · rw [(nan_rank ha).1 h1, (nan_rank hb).1 h2]; simp

theorem rless_any (a b : Nat) (ha : a < 18446744073709551616) (hb : b < 18446744073709551616) (w : World) : Calls Tryd.prog 34 #[.float .f64 a, .float .f64 b] w fun e w' => e = .returned (.bool (lessB a b)) ∧ w = w' := by
  have HE := Lib.hid (rless_eq ha hb)
  have CN : ∀ x v, nanB x = v → Aside (∀ W, Calls Tryd.prog 15 #[.float .f64 x] W fun e w' => e = .returned (.bool v) ∧ W = w') := fun x v h W => (isNaN_any x W).mono fun e w' ⟨he, hw⟩ => ⟨by rw [he, h], hw⟩
  have CS : ∀ x v, x < 18446744073709551616 → sgnB x = v → Aside (∀ W, Calls Tryd.prog 40 #[.float .f64 x] W fun e w' => e = .returned (.bool v) ∧ W = w') := fun x v hx h W => (signbit_any x hx W).mono fun e w' ⟨he, hw⟩ => ⟨by rw [he, h], hw⟩
  obtain ⟨n1, h1⟩ : ∃ v, nanB a = v := ⟨_, rfl⟩
  obtain ⟨n2, h2⟩ : ∃ v, nanB b = v := ⟨_, rfl⟩
  obtain ⟨s1, h3⟩ : ∃ v, sgnB a = v := ⟨_, rfl⟩
  obtain ⟨s2, h4⟩ : ∃ v, sgnB b = v := ⟨_, rfl⟩
  have C1 := CN a n1 h1
  have C2 := CN b n2 h2
  have C3 := CS a s1 ha h3
  have C4 := CS b s2 hb h4
  obtain ⟨q, hq⟩ : ∃ q, (FloatKind.f64.format.order a b == some .eq) = q := ⟨_, rfl⟩
  obtain ⟨q2, hq2⟩ : ∃ q, (FloatKind.f64.format.order a b == some .lt) = q := ⟨_, rfl⟩
  have HD : Hid (lessB a b = if n1 || n2 then n1 && !n2 else if q then s1 && !s2 else q2) := by
    show _ = _
    rw [← HE.out]; unfold rlessB eqF; rw [h1, h2, h3, h4, hq, hq2]
  clear CN CS h1 h2 h3 h4 HE ha hb
  cases n1 <;> cases n2 <;> cases q <;> cases s1 <;> cases s2
  all_goals
    go_enter Tryd.func34, Tryd.ntmps34
    go_wp2_with (first | (go_at_call 15; first | ((with_reducible refine (C1.out _).mono ?_); rintro e w' ⟨rfl, rfl⟩) | ((with_reducible refine (C2.out _).mono ?_); rintro e w' ⟨rfl, rfl⟩)) | (go_at_call 40; first | ((with_reducible refine (C3.out _).mono ?_); rintro e w' ⟨rfl, rfl⟩) | ((with_reducible refine (C4.out _).mono ?_); rintro e w' ⟨rfl, rfl⟩)))
    go_ret
    exact ⟨by rw [HD.out]; rfl, rfl⟩

theorem ralike_any (a b : Nat) (ha : a < 18446744073709551616) (hb : b < 18446744073709551616) (w : World) : Calls Tryd.prog 31 #[.float .f64 a, .float .f64 b] w fun e w' => e = .returned (.bool (alikeB a b)) ∧ w = w' := by
  have HE := Lib.hid (ralike_eq ha hb)
  have CN : ∀ x v, nanB x = v → Aside (∀ W, Calls Tryd.prog 15 #[.float .f64 x] W fun e w' => e = .returned (.bool v) ∧ W = w') := fun x v h W => (isNaN_any x W).mono fun e w' ⟨he, hw⟩ => ⟨by rw [he, h], hw⟩
  have CS : ∀ x v, x < 18446744073709551616 → sgnB x = v → Aside (∀ W, Calls Tryd.prog 40 #[.float .f64 x] W fun e w' => e = .returned (.bool v) ∧ W = w') := fun x v hx h W => (signbit_any x hx W).mono fun e w' ⟨he, hw⟩ => ⟨by rw [he, h], hw⟩
  obtain ⟨n1, h1⟩ : ∃ v, nanB a = v := ⟨_, rfl⟩
  obtain ⟨n2, h2⟩ : ∃ v, nanB b = v := ⟨_, rfl⟩
  obtain ⟨s1, h3⟩ : ∃ v, sgnB a = v := ⟨_, rfl⟩
  obtain ⟨s2, h4⟩ : ∃ v, sgnB b = v := ⟨_, rfl⟩
  have C1 := CN a n1 h1
  have C2 := CN b n2 h2
  have C3 := CS a s1 ha h3
  have C4 := CS b s2 hb h4
  obtain ⟨q, hq⟩ : ∃ q, (FloatKind.f64.format.order a b == some .eq) = q := ⟨_, rfl⟩
  have HD : Hid (alikeB a b = (n1 && n2 || q && (s1 == s2))) := by
    show _ = _
    rw [← HE.out]; unfold ralikeB eqF; rw [h1, h2, h3, h4, hq]
  clear CN CS h1 h2 h3 h4 HE ha hb
  cases n1 <;> cases n2 <;> cases q <;> cases s1 <;> cases s2
  all_goals
    go_enter Tryd.func31, Tryd.ntmps31
    go_wp2_with (first | (go_at_call 15; first | ((with_reducible refine (C1.out _).mono ?_); rintro e w' ⟨rfl, rfl⟩) | ((with_reducible refine (C2.out _).mono ?_); rintro e w' ⟨rfl, rfl⟩)) | (go_at_call 40; first | ((with_reducible refine (C3.out _).mono ?_); rintro e w' ⟨rfl, rfl⟩) | ((with_reducible refine (C4.out _).mono ?_); rintro e w' ⟨rfl, rfl⟩)))
    go_ret
    exact ⟨by rw [HD.out]; rfl, rfl⟩

theorem rclamp_any (x lo hi : Nat) (hx : x < 18446744073709551616) (hlo : lo < 18446744073709551616) (hhi : hi < 18446744073709551616) (w : World) : Calls Tryd.prog 35 #[.float .f64 x, .float .f64 lo, .float .f64 hi] w fun e w' => e = .returned (.float .f64 (clampB x lo hi)) ∧ w = w' := by
  have E : clampB x lo hi = if nanB x || nanB lo || nanB hi || lessB hi lo then nanC else if lessB x lo then lo else if lessB hi x then hi else x := rfl
  have H := Lib.hid E; clear E
  cases h1 : nanB x <;> cases h2 : nanB lo <;> cases h3 : nanB hi <;> cases h4 : lessB hi lo <;> cases h5 : lessB x lo <;> cases h6 : lessB hi x
  all_goals
    have H1 := Lib.hid h1; clear h1
    have H2 := Lib.hid h2; clear h2
    have H3 := Lib.hid h3; clear h3
    have H4 := Lib.hid h4; clear h4
    have H5 := Lib.hid h5; clear h5
    have H6 := Lib.hid h6; clear h6
    go_enter Tryd.func35, Tryd.ntmps35
    go_wp2_with (first | (go_at_call 15; refine (isNaN_any _ _).mono ?_; rintro e w' ⟨rfl, rfl⟩; first | rw [H1.out] | rw [H2.out] | rw [H3.out]) | (go_at_call 34; refine (rless_any _ _ (by assumption) (by assumption) _).mono ?_; rintro e w' ⟨rfl, rfl⟩; first | rw [H4.out] | rw [H5.out] | rw [H6.out]) | (go_at_call 21; refine (nan_any _).mono ?_; rintro e w' ⟨rfl, rfl⟩))
    go_ret
    exact ⟨by rw [H.out, H1.out, H2.out, H3.out, H4.out, H5.out, H6.out]; rfl, rfl⟩
end Go.Proofs.YtgcoodameahkbaaDoor.Fl
namespace Go.Proofs.YtgcoodameahkbaaDoor.Fl
set_option linter.unusedVariables false
set_option linter.unusedSimpArgs false
open Go.RowKit Go.Proofs.YtgcoodameahkbaaDoor.Stable

/-! the reference's Best; OverInts -/
set_option maxHeartbeats 1000000 in
set_option maxRecDepth 100000 in
theorem rbest_any (A : Option Addr) (n c : Nat) (xs : List Nat) (w : World) (hn : n ≤ 1000000) (hF : FlAt w A n xs) (hx : ∀ k, k < n → xs.getD k 0 < 18446744073709551616) :
    Calls Tryd.prog 30 #[.slice A n c] w fun e w' => e = .returned (.int .i64 (bestTo xs n)) ∧ ∃ q, w' = w.drewN q := by
  have HF := Lib.hid hF
  have HX := Lib.hid hx
  clear hF hx
  go_enter Tryd.func30, Tryd.ntmps30
  go_wp2
  go_loopg [3, 4] n (fun g1 best i wr => ∃ k : Nat, i = .int .i64 k ∧ k ≤ n ∧ n - k ≤ g1 ∧ best = .int .i64 (bestTo xs k) ∧ Aside (∃ q, wr = w.drewN q))
  case atStart => exact ⟨0, by first | rfl | go_num, by omega, by omega, rfl, ⟨0, rfl⟩⟩
  case round =>
    obtain ⟨k, rfl, hk, hg1, hbv, HQ⟩ := hrel
    have hb := bestTo_bd xs k
    by_cases hlt : k < n
    · have hltz : (k : Int) < (n : Int) := by omega
      obtain ⟨g, hA, hgl, hcell⟩ := HF.out (by omega)
      subst hA
      obtain ⟨x, hx0⟩ : ∃ x, xs.getD k 0 = x := ⟨_, rfl⟩
      obtain ⟨m, hm0⟩ : ∃ m, bestTo xs k = m := ⟨_, rfl⟩
      have hck : wr.cell? ⟨g, k, none⟩ = some (.float .f64 x) := by obtain ⟨q, hq⟩ := HQ.out; rw [hq, ← hx0]; exact hcell k hlt
      have hxk : x < 18446744073709551616 := by rw [← hx0]; exact HX.out k hlt
      have HS : Hid (bestTo xs (k + 1) = if !nanB x && (decide (m < 0) || lessB (xs.getD m.toNat 0) x) then (k : Int) else m) := by rw [← hx0, ← hm0]; rfl
      have HCELL : Aside (∀ j, j < n → wr.cell? ⟨g, j, none⟩ = some (.float .f64 (xs.getD j 0))) := fun j hj => by obtain ⟨q, hq⟩ := HQ.out; rw [hq]; exact hcell j hj
      have HQ2 : Aside (∀ j, ∃ q, wr.drewN j = w.drewN q) := fun j => by obtain ⟨q, hq⟩ := HQ.out; exact ⟨q + j, by rw [hq, World.drewN_drewN]⟩
      rw [hm0] at hb hbv
      clear hx0 hm0 hcell HQ
      subst hbv
      have CN : ∀ v, nanB x = v → Aside (∀ W, Calls Tryd.prog 15 #[.float .f64 x] W fun e w' => e = .returned (.bool v) ∧ w' = W) := fun v h W => (isNaN_any x W).mono fun e w' ⟨he, hw⟩ => ⟨by rw [he, h], hw.symm⟩
      have FIN : Aside (∀ (nq : Nat) (v : Int), bestTo xs (k + 1) = v → ∃ k' : Nat, Value.int .i64 ((k : Int) + 1) = .int .i64 k' ∧ k' ≤ n ∧ n - k' ≤ n - (k + 1) ∧ Value.int .i64 v = .int .i64 (bestTo xs k') ∧ Aside (∃ q, wr.drewN nq = w.drewN q)) :=
        fun nq v hv => ⟨k + 1, by go_num, by omega, Nat.le_refl _, by rw [hv], HQ2.out nq⟩
      cases h1 : nanB x
      · have C1 := CN false h1
        by_cases h2 : m < 0
        · have E : bestTo xs (k + 1) = k := by rw [HS.out, h1, decide_eq_true h2]; rfl
          have H := Lib.hid E; clear E h1 HS CN
          have d1 : decide (m < 0) = true := decide_eq_true h2
          have C2 := C1
          go_wp2_with fail
          go_quiet ((go_at_call 15; exact Calls.quiet_of_same (C1.out _)))
          clear hck HCELL d1
          go_wp2
          go_roundg (n - (k + 1))
          case measure => omega
          case rel => exact FIN.out nq _ H.out
        · obtain ⟨j, rfl⟩ := Int.eq_ofNat_of_zero_le (show 0 ≤ m by omega)
          obtain ⟨y, hy0⟩ : ∃ y, xs.getD j 0 = y := ⟨_, rfl⟩
          have hcj : wr.cell? ⟨g, j, none⟩ = some (.float .f64 y) := by rw [← hy0]; exact HCELL.out j (by omega)
          have hxj : y < 18446744073709551616 := by rw [← hy0]; exact HX.out j (by omega)
          have HT : Hid (bestTo xs (k + 1) = if lessB y x then (k : Int) else j) := by show bestTo xs (k + 1) = _; rw [HS.out, h1, decide_eq_false h2, Int.toNat_natCast, hy0]; simp
          have d1 : decide ((j : Int) < 0) = false := decide_eq_false h2
          have hjl : (j : Int) < (n : Int) := by omega
          clear hy0 HS h1 CN
          cases h3 : lessB y x
          · have E : bestTo xs (k + 1) = j := by rw [HT.out, h3]; simp
            have H := Lib.hid E; clear E HT
            have C2 : Aside (∀ W, Calls Tryd.prog 34 #[.float .f64 y, .float .f64 x] W fun e w' => e = .returned (.bool false) ∧ w' = W) := fun W => (rless_any y x hxj hxk W).mono fun e w' ⟨he, hw⟩ => ⟨by rw [he, h3], hw.symm⟩
            clear h3
            go_wp2_with fail
            go_quiet ((first | (go_at_call 15; exact Calls.quiet_of_same (C1.out _)) | (go_at_call 34; exact Calls.quiet_of_same (C2.out _))))
            clear hck hcj HCELL d1
            go_wp2
            go_roundg (n - (k + 1))
            case measure => omega
            case rel => exact FIN.out nq _ H.out
          · have E : bestTo xs (k + 1) = k := by rw [HT.out, h3]; simp
            have H := Lib.hid E; clear E HT
            have C2 : Aside (∀ W, Calls Tryd.prog 34 #[.float .f64 y, .float .f64 x] W fun e w' => e = .returned (.bool true) ∧ w' = W) := fun W => (rless_any y x hxj hxk W).mono fun e w' ⟨he, hw⟩ => ⟨by rw [he, h3], hw.symm⟩
            clear h3
            go_wp2_with fail
            go_quiet ((first | (go_at_call 15; exact Calls.quiet_of_same (C1.out _)) | (go_at_call 34; exact Calls.quiet_of_same (C2.out _))))
            clear hck hcj HCELL d1
            go_wp2
            go_roundg (n - (k + 1))
            case measure => omega
            case rel => exact FIN.out nq _ H.out
      · have C1 := CN true h1
        have E : bestTo xs (k + 1) = m := by rw [HS.out, h1]; simp
        have H := Lib.hid E; clear E h1 HS CN
        go_wp2_with fail
        go_quiet ((go_at_call 15; exact Calls.quiet_of_same (C1.out _)))
        clear hck HCELL
        go_wp2
        go_roundg (n - (k + 1))
        case measure => omega
        case rel => exact FIN.out nq _ H.out
    · have hltz : ¬ (k : Int) < (n : Int) := by omega
      obtain rfl : k = n := by omega
      subst hbv
      go_wp2
      go_ret
      exact ⟨rfl, HQ.out⟩

set_option maxRecDepth 100000 in
theorem overInts_any (w : World) (B G n : Nat) (xs : List Value) (hn : n ≤ 1000) (h : w.ownsRow B 3 1 (.slice (some ⟨G, 0, none⟩) n n) n xs) (hB : B ≤ w.heap.size) :
    Calls Tryd.prog 33 #[.slice (some ⟨G, 0, none⟩) n n] w fun e w' => e = .returned (.tuple #[]) ∧ Below B w w' := by
  obtain ⟨i0, hi, hz0, hz1, hz2⟩ := info_parts info3
  have HO := Lib.hid h
  have hG : B ≤ G := (h.lt G rfl).1
  clear h
  go_enter Tryd.func33, Tryd.ntmps33
  go_wp2
  go_loopg [2] n (fun g1 i wr => ∃ (k : Nat) (ys : List Value), i = .int .i64 k ∧ k ≤ n ∧ n - k ≤ g1 ∧ Hid (wr.ownsRow B 3 1 (.slice (some ⟨G, 0, none⟩) n n) n ys) ∧ Aside (Below B w wr))
  case atStart => exact ⟨0, xs, by first | rfl | go_num, by omega, by omega, HO, Below.refl _ _⟩
  case round =>
    clear HO
    obtain ⟨k, ys, rfl, hk, hg1, HO, HB⟩ := hrel
    have hsz := HB.out.size
    by_cases hlt : k < n
    · have hltz : (k : Int) < (n : Int) := by omega
      have hl : ys.length = n := by have := HO.out.1; omega
      obtain ⟨y, hy⟩ : ∃ y, ys[k]? = some y := ⟨ys[k], List.getElem?_eq_getElem (by omega)⟩
      have hc1 : wr.cell? ⟨G, k, none⟩ = some y := by rw [HO.out.cellAt k (by omega), hy]
      have hf1 : wr.frozen? ⟨G, k, none⟩ = false := HO.out.frozenAt k
      have HO1 : Hid ((wr.setCell ⟨G, k, none⟩ (.int .i64 (-999))).ownsRow B 3 1 (.slice (some ⟨G, 0, none⟩) n n) n (ys.set k (.int .i64 (-999)))) := (HO.out.stored k _).1
      have HB1 : Aside (Below B w (wr.setCell ⟨G, k, none⟩ (.int .i64 (-999)))) := HB.out.setCell hG _
      clear HO HB hy hl
      go_wp2
      clear hc1 hf1
      generalize wr.setCell ⟨G, k, none⟩ (.int .i64 (-999)) = w1 at HO1 HB1 ⊢
      go_roundg (n - (k + 1))
      case measure => omega
      case rel => exact ⟨k + 1, _, by first | rfl | go_num | (congr 1; omega), by omega, Nat.le_refl _, HO1, HB1⟩
    · have hltz : ¬ (k : Int) < (n : Int) := by omega
      go_wp2_with (at_builtin; refine wpList_append_own_at _ rfl (.tmp 12) (.tmp 13) 33 rfl B 3 i0 (.int .i64 0) 1 8 Tryd.underlying33 hi hz0 hz1 hz2 rfl (by decide) _ n ys rfl (HO.out.alloc _) ⟨wr.heap.size, 0, none⟩ 1 1 [.int .i64 (-999)] rfl rfl (new_cell _ _ _) (by simp [Value.oneCell']) (by unfold maxLen; omega) (by omega) (by simp; omega) ?_; intro v6 w6 ho6 hgr6 hq1 hq2; clear hq1 hq2)
      have HB2 : Aside (Below B w w6) := (HB.out.alloc (by omega) _).grown hgr6 (by simp; omega) (fun j h => (HO.out.lt j h).1)
      clear ho6 hgr6 HB HO
      go_wp2
      go_end0
      exact ⟨rfl, HB2.out⟩
end Go.Proofs.YtgcoodameahkbaaDoor.Fl
namespace Go.Proofs.YtgcoodameahkbaaDoor.Fl
set_option linter.unusedVariables false
set_option linter.unusedSimpArgs false
open Go.RowKit Go.Proofs.YtgcoodameahkbaaDoor.Stable Ieee

/-- a word, unless it is no number -/
def clsB (b : Nat) : Option Nat := if nanB b then none else some b
theorem word_num (neg : Bool) (r : Nat) (hr : r ≤ 9218868437227405312) : nanB (double.word neg r) = false ∧ double.word neg r < 18446744073709551616 := by
  have h : double.word neg r < 18446744073709551616 ∧ double.word neg r % 9223372036854775808 = r := by
    unfold Format.word
    rw [swD]
    cases neg
    · simp only [Bool.false_eq_true, if_false]; omega
    · simp only [if_true]; omega
  refine ⟨?_, h.1⟩
  have := mt (nan_iff h.1).1 (by omega)
  simpa using this
theorem write_num (d : Datum) (h : ∀ s t, d ≠ .nan s t) : nanB (double.write d) = false ∧ double.write d < 18446744073709551616 := by
  cases d with
  | nan s t => exact absurd rfl (h s t)
  | infinity s =>
    show nanB (double.word s double.infRung) = false ∧ double.word s double.infRung < 18446744073709551616
    rw [infD]; exact word_num s _ (Nat.le_refl _)
  | number s m p =>
    show nanB (double.nearest s m p) = false ∧ double.nearest s m p < 18446744073709551616
    by_cases hm : m = 0
    · subst hm
      unfold Format.nearest
      rw [if_pos rfl]
      exact word_num s 0 (by omega)
    · rw [nearest_eq s hm p]
      exact word_num s _ (by omega)
theorem sum_num (d e r : Datum) (h : d.sum e = some r) : ∀ s t, r ≠ .nan s t := by
  intro s t hr
  subst hr
  unfold Datum.sum at h
  split at h
  · cases h
  · cases h
  · split at h <;> cases h
  · cases h
  · cases h
  · cases h
theorem quo_num (k : Nat) (d e r : Datum) (h : d.quotient k e = some r) : ∀ s t, r ≠ .nan s t := by
  intro s t hr
  subst hr
  unfold Datum.quotient at h
  split at h
  · cases h
  · cases h
  · cases h
  · cases h
  · cases h
  · split at h
    · split at h <;> cases h
    · cases h
theorem arith_num {op : BinOp} {x y r : Nat} (hop : op = .add ∨ op = .quo) (h : floatBits op .f64 x y = some r) : nanB r = false ∧ r < 18446744073709551616 := by
  rcases hop with rfl | rfl
  · have h' : ((double.read x).sum (double.read y)).map double.write = some r := h
    obtain ⟨d, hd, rfl⟩ := Option.map_eq_some_iff.1 h'
    exact write_num d (sum_num _ _ d hd)
  · have h' : ((double.read x).quotient (double.fractionBits + 2) (double.read y)).map double.write = some r := h
    obtain ⟨d, hd, rfl⟩ := Option.map_eq_some_iff.1 h'
    exact write_num d (quo_num _ _ _ d hd)
theorem cls_eq {r : Nat} (h : nanB r = false) : clsB r = some r := by unfold clsB; rw [h]; rfl
theorem cls_none {r : Nat} (h : nanB r = true) : clsB r = none := by unfold clsB; rw [h]; rfl

/-- A sum, or a quotient, whatever comes of it. -/
theorem run_float_cls (W : World) (op : BinOp) (t : TypeId) (x y : Nat) (hop : op = .add ∨ op = .quo) :
    ∃ r q, (binOp op t (.float .f64 x) (.float .f64 y)).run Tryd.prog W = .ok (.float .f64 r) (W.drewN q) ∧ clsB r = floatBits op .f64 x y ∧ r < 18446744073709551616 := by
  cases h : floatBits op .f64 x y with
  | none => exact ⟨_, 1, run_float_none W op t x y hop h, cls_none (nanOf_spec _ _ _).1, (nanOf_spec _ _ _).2⟩
  | some r =>
    obtain ⟨h1, h2⟩ := arith_num hop h
    refine ⟨r, 0, ?_, cls_eq h1, h2⟩
    rcases hop with rfl | rfl
    · exact run_float_arith W .add t .f64 x y r h
    · exact run_float_arith W .quo t .f64 x y r h

/-! means -/
def sumO (xs : List Nat) : Nat → Option Nat
  | 0 => clsB (xs.getD 0 0)
  | k + 1 => (sumO xs k).bind fun s => floatBits .add .f64 s (xs.getD (k + 1) 0)
def meanO (xs : List Nat) (n : Nat) : Option Nat := if n = 0 then none else (sumO xs (n - 1)).bind fun s => floatBits .quo .f64 s (floatOfInt .f64 (n : Int))
theorem add_nan_fst {a r : Nat} (h : nanB r = true) : floatBits .add .f64 r a = none := by
  obtain ⟨s, t, hr⟩ := read_of_nan h
  show ((double.read r).sum (double.read a)).map double.write = none
  rw [hr]
  cases double.read a <;> rfl
theorem bind_cls {op : BinOp} {s : Nat} {o : Option Nat} {y : Nat} (hop : op = .add ∨ op = .quo) (h : clsB s = o) : floatBits op .f64 s y = o.bind fun s => floatBits op .f64 s y := by
  subst h
  cases hn : nanB s
  · rw [cls_eq hn]; rfl
  · rw [cls_none hn]
    rcases hop with rfl | rfl
    · exact add_nan_fst hn
    · exact quo_nan hn

/-- Two words that are the same, or both no numbers, are alike. -/
theorem alike_cls {a b : Nat} (h : clsB a = clsB b) (ha : a < 18446744073709551616) (hb : b < 18446744073709551616) : alikeB a b = true := by
  rw [alike_rank ha hb]
  cases h1 : nanB a <;> cases h2 : nanB b
  · rw [cls_eq h1, cls_eq h2] at h
    cases h; rfl
  · rw [cls_eq h1, cls_none h2] at h; cases h
  · rw [cls_none h1, cls_eq h2] at h; cases h
  · rw [(nan_rank ha).1 h1, (nan_rank hb).1 h2]

/-- What a call of a mean, or a share, answers: a word of that kind. -/
def ClsPost (o : Option Nat) (w : World) (e : Ending) (w' : World) : Prop := ∃ r, e = .returned (.float .f64 r) ∧ clsB r = o ∧ r < 18446744073709551616 ∧ ∃ q, w' = w.drewN q

set_option maxHeartbeats 1000000 in
set_option maxRecDepth 100000 in
theorem rmean_any (A : Option Addr) (n c : Nat) (xs : List Nat) (w : World) (hn : n ≤ 1000) (hF : FlAt w A n xs) (hx : ∀ k, k < n → xs.getD k 0 < 18446744073709551616) :
    Calls Tryd.prog 32 #[.slice A n c] w (ClsPost (meanO xs n) w) := by
  by_cases h0 : n = 0
  · subst h0
    have HE : Aside (∀ W, ClsPost (meanO xs 0) W (.returned (.float .f64 nanC)) W) := fun W => ⟨nanC, rfl, cls_none (by kernel_rfl), by decide, 0, rfl⟩
    go_enter Tryd.func32, Tryd.ntmps32
    go_wp2_with (go_at_call 21; refine (nan_any _).mono ?_; rintro e w' ⟨rfl, rfl⟩)
    go_ret
    exact HE.out _
  · obtain ⟨g, rfl, hgl, hcell⟩ := hF (by omega)
    obtain ⟨x0, hx0⟩ : ∃ x, xs.getD 0 0 = x := ⟨_, rfl⟩
    have hc0 : w.cell? ⟨g, 0, none⟩ = some (.float .f64 x0) := by rw [← hx0]; exact hcell 0 (by omega)
    have hxx : x0 < 18446744073709551616 := by rw [← hx0]; exact hx 0 (by omega)
    have HS0 : Aside (clsB x0 = sumO xs 0) := by rw [← hx0]; rfl
    have HC := Lib.hid hcell
    have HX := Lib.hid hx
    have hb0 : ((n : Int) == 0) = false := by rw [beq_eq_false_iff_ne]; omega
    have hn1 : (0 : Int) < (n : Int) := by omega
    clear hF hx hcell hx0
    go_enter Tryd.func32, Tryd.ntmps32
    go_wp2
    go_loopg [3, 4] n (fun g1 s i wr => ∃ (k s0 : Nat), i = .int .i64 ((k : Int) + 1) ∧ s = .float .f64 s0 ∧ k + 1 ≤ n ∧ n - k ≤ g1 ∧ Aside (clsB s0 = sumO xs k) ∧ Aside (∃ q, wr = w.drewN q))
    case atStart => exact ⟨0, x0, by first | rfl | go_num, rfl, by omega, by omega, HS0, ⟨0, rfl⟩⟩
    case round =>
      clear HS0
      obtain ⟨k, s0, rfl, rfl, hk, hg1, HS, HQ⟩ := hrel
      by_cases hlt : k + 1 < n
      · have hltz : (k : Int) + 1 < (n : Int) := by omega
        obtain ⟨y, hy⟩ : ∃ y, xs.getD (k + 1) 0 = y := ⟨_, rfl⟩
        have hck : wr.cell? ⟨g, k + 1, none⟩ = some (.float .f64 y) := by obtain ⟨q, hq⟩ := HQ.out; rw [hq, ← hy]; exact HC.out (k + 1) hlt
        obtain ⟨r, q, hrun, hcls, hr⟩ := run_float_cls wr .add 24 s0 y (.inl rfl)
        have HS2 : Aside (clsB r = sumO xs (k + 1)) := by
          show _ = _
          rw [hcls, sumO, hy]; exact bind_cls (.inl rfl) HS.out
        have HQ2 : Aside (∃ q', wr.drewN q = w.drewN q') := by obtain ⟨q1, hq⟩ := HQ.out; exact ⟨q1 + q, by rw [hq, World.drewN_drewN]⟩
        clear hcls hy HS HQ hc0
        go_wp2
        clear hrun hck
        generalize wr.drewN q = w7 at HQ2 ⊢
        go_roundg (n - (k + 1))
        case measure => omega
        case rel => exact ⟨k + 1, r, by first | rfl | go_num | (congr 1; omega), rfl, by omega, Nat.le_refl _, HS2, HQ2⟩
      · have hltz : ¬ (k : Int) + 1 < (n : Int) := by omega
        obtain ⟨r, q, hrun, hcls, hr⟩ := run_float_cls wr .quo 24 s0 (floatOfInt .f64 (n : Int)) (.inr rfl)
        have HE : Aside (ClsPost (meanO xs n) w (.returned (.float .f64 r)) (wr.drewN q)) := by
          refine ⟨r, rfl, ?_, hr, ?_⟩
          · rw [hcls]
            unfold meanO
            rw [if_neg h0, show n - 1 = k by omega]
            exact bind_cls (.inr rfl) HS.out
          · obtain ⟨q1, hq⟩ := HQ.out; exact ⟨q1 + q, by rw [hq, World.drewN_drewN]⟩
        clear hcls HS HQ hc0
        go_wp2
        go_ret
        exact HE.out

set_option maxHeartbeats 1000000 in
set_option maxRecDepth 100000 in
theorem mean_any (A : Option Addr) (n c : Nat) (xs : List Nat) (w : World) (hn : n ≤ 1000) (hcap : n ≤ c) (hcm : c ≤ maxLen) (hF : FlAt w A n xs) (hx : ∀ k, k < n → xs.getD k 0 < 18446744073709551616) :
    Calls Tryd.prog 20 #[.slice A n c] w (ClsPost (meanO xs n) w) := by
  unfold maxLen at hcm
  by_cases h0 : n = 0
  · subst h0
    have HE : Aside (∀ W, ClsPost (meanO xs 0) W (.returned (.float .f64 nanC)) W) := fun W => ⟨nanC, rfl, cls_none (by kernel_rfl), by decide, 0, rfl⟩
    go_enter Tryd.func20, Tryd.ntmps20
    go_wp2_with (go_at_call 21; refine (nan_any _).mono ?_; rintro e w' ⟨rfl, rfl⟩)
    go_ret
    exact HE.out _
  · obtain ⟨g, rfl, hgl, hcell⟩ := hF (by omega)
    obtain ⟨x0, hx0⟩ : ∃ x, xs.getD 0 0 = x := ⟨_, rfl⟩
    have hc0 : w.cell? ⟨g, 0, none⟩ = some (.float .f64 x0) := by rw [← hx0]; exact hcell 0 (by omega)
    have hxx : x0 < 18446744073709551616 := by rw [← hx0]; exact hx 0 (by omega)
    have HS0 : Aside (clsB x0 = sumO xs 0) := by rw [← hx0]; rfl
    have HC := Lib.hid hcell
    have HX := Lib.hid hx
    have hb0 : ((n : Int) == 0) = false := by rw [beq_eq_false_iff_ne]; omega
    have hn1 : (0 : Int) < (n : Int) := by omega
    clear hF hx hcell hx0
    by_cases c1 : c = 1
    · obtain rfl : n = 1 := by omega
      subst c1
      obtain ⟨r, q, hrun, hcls, hr⟩ := run_float_cls w .quo 24 x0 (floatOfInt .f64 1) (.inr rfl)
      have HE : Aside (ClsPost (meanO xs 1) w (.returned (.float .f64 r)) (w.drewN q)) := by
        refine ⟨r, rfl, ?_, hr, q, rfl⟩
        rw [hcls]
        unfold meanO
        rw [if_neg (by omega)]
        exact bind_cls (.inr rfl) HS0.out
      clear hcls
      go_enter Tryd.func20, Tryd.ntmps20
      go_wp2
      go_loopg [3, 16] 0 (fun g1 s i wr => i = .int .i64 0 ∧ s = .float .f64 x0 ∧ wr = w)
      case atStart => exact ⟨by first | rfl | go_num, rfl, rfl⟩
      case round =>
        obtain ⟨rfl, rfl, hw⟩ := hrel
        subst hw
        go_wp2
        go_ret
        exact HE.out
    · have c2 : 1 < c := by omega
      go_enter Tryd.func20, Tryd.ntmps20
      go_wp2
      go_loopg [3, 16] n (fun g1 s i wr => ∃ (k s0 : Nat), i = .int .i64 k ∧ s = .float .f64 s0 ∧ k + 1 ≤ n ∧ n - k ≤ g1 ∧ Aside (clsB s0 = sumO xs k) ∧ Aside (∃ q, wr = w.drewN q))
      case atStart => exact ⟨0, x0, by first | rfl | go_num, rfl, by omega, by omega, HS0, ⟨0, rfl⟩⟩
      case round =>
        clear HS0
        obtain ⟨k, s0, rfl, rfl, hk, hg1, HS, HQ⟩ := hrel
        by_cases hlt : k < n - 1
        · obtain ⟨y, hy⟩ : ∃ y, xs.getD (k + 1) 0 = y := ⟨_, rfl⟩
          have hck : wr.cell? ⟨g, 1 + k, none⟩ = some (.float .f64 y) := by obtain ⟨q, hq⟩ := HQ.out; rw [hq, ← hy, show 1 + k = k + 1 by omega]; exact HC.out (k + 1) (by omega)
          obtain ⟨r, q, hrun, hcls, hr⟩ := run_float_cls wr .add 24 s0 y (.inl rfl)
          have HS2 : Aside (clsB r = sumO xs (k + 1)) := by
            show _ = _
            rw [hcls, sumO, hy]; exact bind_cls (.inl rfl) HS.out
          have HQ2 : Aside (∃ q', wr.drewN q = w.drewN q') := by obtain ⟨q1, hq⟩ := HQ.out; exact ⟨q1 + q, by rw [hq, World.drewN_drewN]⟩
          clear hcls hy HS HQ hc0
          go_wp2
          clear hrun hck
          generalize wr.drewN q = w7 at HQ2 ⊢
          go_roundg (n - (k + 1))
          case measure => omega
          case rel => exact ⟨k + 1, r, by first | rfl | go_num | (congr 1; omega), rfl, by omega, Nat.le_refl _, HS2, HQ2⟩
        · obtain ⟨r, q, hrun, hcls, hr⟩ := run_float_cls wr .quo 24 s0 (floatOfInt .f64 (n : Int)) (.inr rfl)
          have HE : Aside (ClsPost (meanO xs n) w (.returned (.float .f64 r)) (wr.drewN q)) := by
            refine ⟨r, rfl, ?_, hr, ?_⟩
            · rw [hcls]
              unfold meanO
              rw [if_neg h0, show n - 1 = k by omega]
              exact bind_cls (.inr rfl) HS.out
            · obtain ⟨q1, hq⟩ := HQ.out; exact ⟨q1 + q, by rw [hq, World.drewN_drewN]⟩
          clear hcls HS HQ hc0
          go_wp2
          go_ret
          exact HE.out

theorem share_cls (a b : Int) (w : World) : Calls Tryd.prog 13 #[.int .i64 a, .int .i64 b] w (ClsPost (floatBits .quo .f64 (floatOfInt .f64 a) (floatOfInt .f64 b)) w) := by
  obtain ⟨r, q, hrun, hcls, hr⟩ := run_float_cls w .quo 24 (floatOfInt .f64 a) (floatOfInt .f64 b) (.inr rfl)
  have HE : Aside (ClsPost (floatBits .quo .f64 (floatOfInt .f64 a) (floatOfInt .f64 b)) w (.returned (.float .f64 r)) (w.drewN q)) := ⟨r, rfl, hcls, hr, q, rfl⟩
  clear hcls
  go_enter Tryd.func13, Tryd.ntmps13
  go_wp2
  go_ret
  exact HE.out
theorem rshare_cls (a b : Int) (w : World) : Calls Tryd.prog 37 #[.int .i64 a, .int .i64 b] w (ClsPost (floatBits .quo .f64 (floatOfInt .f64 a) (floatOfInt .f64 b)) w) := by
  obtain ⟨r, q, hrun, hcls, hr⟩ := run_float_cls w .quo 24 (floatOfInt .f64 a) (floatOfInt .f64 b) (.inr rfl)
  have HE : Aside (ClsPost (floatBits .quo .f64 (floatOfInt .f64 a) (floatOfInt .f64 b)) w (.returned (.float .f64 r)) (w.drewN q)) := ⟨r, rfl, hcls, hr, q, rfl⟩
  clear hcls
  go_enter Tryd.func37, Tryd.ntmps37
  go_wp2
  go_ret
  exact HE.out
end Go.Proofs.YtgcoodameahkbaaDoor.Fl
