/- The law ScoreOrders returns true, for every three words and every list of at most thirty. -/
import Derived.Test.YtgcoodameahkbaaDoorStO7
import Derived.Deep.DeepCutAuto
namespace Go.Proofs.YtgcoodameahkbaaDoor.Fl
set_option linter.unusedVariables false
set_option linter.unusedSimpArgs false
open Go.RowKit Go.Proofs.YtgcoodameahkbaaDoor.Stable

set_option maxRecDepth 100000 in
theorem orders_long (a b d : Int) (A : Option Addr) (n c : Nat) (w : World) (h : 30 < n) (hn : n ≤ maxLen) :
    Calls Tryd.prog 7 #[.int .u64 a, .int .u64 b, .int .u64 d, .slice A n c] w fun e w' => e = .returned (.bool true) ∧ Below w.heap.size w w' := by
  unfold maxLen at hn
  have hz : (30 : Int) < (n : Int) := by omega
  go_enter Tryd.func7, Tryd.ntmps7
  go_wp2_with (go_at_call 17; refine (awake_any _).mono ?_; rintro e w5 ⟨rfl, hb5⟩)
  go_ret
  exact ⟨rfl, hb5⟩

set_option maxHeartbeats 8000000 in
set_option maxRecDepth 100000 in
theorem orders_law (x y z : Nat) (xs : List Nat) (n : Nat) (A : Option Addr) (c : Nat) (w : World) (hxx : x < 18446744073709551616) (hyy : y < 18446744073709551616) (hzz : z < 18446744073709551616)
    (h30 : n ≤ 30) (hW : WordsAt w A n xs) (hx : ∀ k, k < n → xs.getD k 0 < 18446744073709551616) :
    Calls Tryd.prog 7 #[.int .u64 x, .int .u64 y, .int .u64 z, .slice A n c] w fun e w' => e = .returned (.bool true) ∧ Below w.heap.size w w' := by
  have hz : ¬ (30 : Int) < (n : Int) := by omega
  have HX := Lib.hid hx
  have CN := Lib.hid (numbers_any xs n A c w (by omega) hW)
  have HS := Lib.hid (best_spec xs n hx)
  clear hx hW
  obtain ⟨b1, hb1⟩ : ∃ b, lessB x y = b := ⟨_, rfl⟩
  obtain ⟨b2, hb2⟩ : ∃ b, lessB y x = b := ⟨_, rfl⟩
  obtain ⟨b3, hb3⟩ : ∃ b, lessB y z = b := ⟨_, rfl⟩
  obtain ⟨b4, hb4⟩ : ∃ b, alikeB x y = b := ⟨_, rfl⟩
  have C1 : Aside (∀ W, Calls Tryd.prog 12 #[.float .f64 x, .float .f64 y] W fun e w' => e = .returned (.bool b1) ∧ W = w') := fun W => (less_any x y hxx hyy W).mono fun e w' ⟨he, hw⟩ => ⟨by rw [he, hb1], hw⟩
  have C2 : Aside (∀ W, Calls Tryd.prog 12 #[.float .f64 y, .float .f64 x] W fun e w' => e = .returned (.bool b2) ∧ W = w') := fun W => (less_any y x hyy hxx W).mono fun e w' ⟨he, hw⟩ => ⟨by rw [he, hb2], hw⟩
  have C3 : Aside (∀ W, Calls Tryd.prog 12 #[.float .f64 y, .float .f64 z] W fun e w' => e = .returned (.bool b3) ∧ W = w') := fun W => (less_any y z hyy hzz W).mono fun e w' ⟨he, hw⟩ => ⟨by rw [he, hb3], hw⟩
  have C4 : Aside (∀ W, Calls Tryd.prog 24 #[.float .f64 x, .float .f64 y] W fun e w' => e = .returned (.bool b4) ∧ W = w') := fun W => (alike_any x y hxx hyy W).mono fun e w' ⟨he, hw⟩ => ⟨by rw [he, hb4], hw⟩
  have C5 : Aside (b1 = true → b3 = true → ∀ W, Calls Tryd.prog 12 #[.float .f64 x, .float .f64 z] W fun e w' => e = .returned (.bool true) ∧ W = w') := fun h1 h3 W => (less_any x z hxx hzz W).mono fun e w' ⟨he, hw⟩ => ⟨by
    rw [he]
    have e1 := (less_rank hxx hyy).1 (hb1.trans h1)
    have e3 := (less_rank hyy hzz).1 (hb3.trans h3)
    rw [(less_rank hxx hzz).2 (by omega)], hw⟩
  have C6 : Aside (∀ W, Calls Tryd.prog 24 #[.float .f64 x, .float .f64 x] W fun e w' => e = .returned (.bool true) ∧ W = w') := fun W => (alike_any x x hxx hxx W).mono fun e w' ⟨he, hw⟩ => ⟨by rw [he, alike_refl], hw⟩
  have HN : Aside ((if b1 then 1 else 0) + (if b2 then 1 else 0) + (if b4 then 1 else 0) = 1) := by
    rw [← hb1, ← hb2, ← hb4]
    show _ = _
    unfold alikeB
    cases h1 : lessB x y <;> cases h2 : lessB y x <;> simp
    have e1 := (less_rank hxx hyy).1 h1
    have e2 := (less_rank hyy hxx).1 h2
    omega
  clear hb1 hb2 hb3 hb4
  go_enter Tryd.func7, Tryd.ntmps7
  go_wp2_with fail
  rw [run_frombitsN, Oper.upon_value]
  go_wp2_with fail
  rw [run_frombitsN, Oper.upon_value]
  go_wp2_with fail
  rw [run_frombitsN, Oper.upon_value]
  go_upto_if 30 with (go_at_call 12; (with_reducible refine (C1.out _).mono ?_); rintro e w' ⟨rfl, rfl⟩)
  go_cut [12] (fun s wx => ∃ k1 : Nat, s = .int .i64 k1 ∧ Aside (k1 = if b1 then 1 else 0) ∧ k1 ≤ 1 ∧ wx = w)
  case first =>
    as_aux_lemma =>
      cases b1 with
      | true => 
        go_wp2
        go_meet
        exact ⟨1, rfl, rfl, by omega, rfl⟩
      | false => 
        go_wp2
        go_meet
        exact ⟨0, rfl, rfl, by omega, rfl⟩
  case rest =>
    as_aux_lemma =>
      obtain ⟨k1, rfl, hk1, hk1b, rfl⟩ := hcut
      go_upto_if 35 with (go_at_call 12; (with_reducible refine (C2.out _).mono ?_); rintro e w' ⟨rfl, rfl⟩)
      go_cut [12] (fun s wx => ∃ k2 : Nat, s = .int .i64 k2 ∧ Aside (k2 = (if b1 then 1 else 0) + (if b2 then 1 else 0)) ∧ k2 ≤ 2 ∧ wx = wc)
      case first =>
        as_aux_lemma =>
          cases b2 with
          | true => 
            go_wp2
            go_meet
            exact ⟨k1 + 1, by go_num, by show _ = _; rw [hk1.out]; rfl, by omega, rfl⟩
          | false => 
            go_wp2
            go_meet
            exact ⟨k1, rfl, by show _ = _; rw [hk1.out]; rfl, by omega, rfl⟩
      case rest =>
        as_aux_lemma =>
          clear hk1
          obtain ⟨k2, rfl, hk2, hk2b, rfl⟩ := hcut
          go_upto_if 40 with (go_at_call 24; (with_reducible refine (C4.out _).mono ?_); rintro e w' ⟨rfl, rfl⟩)
          go_cut [12] (fun s wx => s = .int .i64 1 ∧ wx = wc)
          case first =>
            as_aux_lemma =>
              cases b4 with
              | true =>
                have e1 : (k2 : Int) + 1 = 1 := by have h1 := HN.out; have h2 := hk2.out; simp only [if_true] at h1; omega
                have E1 := Lib.hid e1
                clear e1
                go_wp2
                go_meet
                exact ⟨by rw [E1.out], rfl⟩
              | false =>
                have e1 : (k2 : Int) = 1 := by have h1 := HN.out; have h2 := hk2.out; simp only [Bool.false_eq_true, if_false] at h1; omega
                have E1 := Lib.hid e1
                clear e1
                go_wp2
                go_meet
                exact ⟨by rw [E1.out], rfl⟩
          case rest =>
            as_aux_lemma =>
              clear hk2 HN
              obtain ⟨rfl, rfl⟩ := hcut
              go_upto_region 11 with fail
              go_cut [66] (fun s wx => s = .bool false ∧ wx = wc)
              case first =>
                as_aux_lemma =>
                  cases h1 : b1
                  · go_wp2_with (first | (go_at_call 12; (with_reducible refine (C1.out _).mono ?_); rintro e w' ⟨rfl, rfl⟩) | (go_at_call 24; (with_reducible refine (C6.out _).mono ?_); rintro e w' ⟨rfl, rfl⟩))
                    go_meet
                    exact ⟨rfl, rfl⟩
                  · cases h3 : b3
                    · go_wp2_with (first | (go_at_call 12; first | ((with_reducible refine (C1.out _).mono ?_); rintro e w' ⟨rfl, rfl⟩) | ((with_reducible refine (C3.out _).mono ?_); rintro e w' ⟨rfl, rfl⟩)) | (go_at_call 24; (with_reducible refine (C6.out _).mono ?_); rintro e w' ⟨rfl, rfl⟩))
                      go_meet
                      exact ⟨rfl, rfl⟩
                    · go_wp2_with (first | (go_at_call 12; first | ((with_reducible refine (C1.out _).mono ?_); rintro e w' ⟨rfl, rfl⟩) | ((with_reducible refine (C3.out _).mono ?_); rintro e w' ⟨rfl, rfl⟩) | ((with_reducible refine (C5.out h1 h3 _).mono ?_); rintro e w' ⟨rfl, rfl⟩)) | (go_at_call 24; (with_reducible refine (C6.out _).mono ?_); rintro e w' ⟨rfl, rfl⟩))
                      go_meet
                      exact ⟨rfl, rfl⟩
              case rest =>
                as_aux_lemma =>
                  obtain ⟨rfl, rfl⟩ := hcut
                  clear C1 C2 C3 C4 C5 C6
                  go_wp2_with fail
                  with_reducible refine CN.out.mono ?_
                  rintro e w1 ⟨Ax, cx, rfl, ho1, hbel1⟩
                  have HF1 : Aside (FlAt w1 Ax n xs) := FlAt.of_own ho1
                  have HB1 : Aside (Below wc.heap.size wc w1) := hbel1
                  have CO := Lib.hid (order_at xs n Ax cx w1 (by omega) HF1.out HX.out)
                  clear ho1 hbel1 CN
                  go_wp2_with fail
                  with_reducible refine CO.out.mono ?_
                  rintro e w2 ⟨G, os, rfl, ho, hown, hbel⟩
                  have HO := Lib.hid ho
                  have HB2 : Aside (Below wc.heap.size wc w2) := below_next HB1.out hbel
                  have HF2 : Aside (FlAt w2 Ax n xs) := HF1.out.below hbel
                  have HI2 : Aside (∀ j, j < n → w2.cell? ⟨G, j, none⟩ = some (.int .i64 ((os.getD j 0 : Nat) : Int))) := fun j hj => ints_of_own hown j hj
                  have CB : Aside (∀ W, FlAt W Ax n xs → Calls Tryd.prog 27 #[.slice Ax n cx] W fun e w' => e = .returned (.int .i64 (bestTo xs n)) ∧ W = w') := fun W hW => best_at xs n Ax cx W (by omega) hW HX.out
                  clear ho hown hbel CO HB1 HF1
                  go_wp2
                  go_loopg [15] n (fun g1 v wr => ∃ i : Nat, v = .int .i64 i ∧ i ≤ n ∧ n - i ≤ g1 ∧ Aside (Below wc.heap.size wc wr) ∧ Aside (FlAt wr Ax n xs) ∧ Aside (∀ j, j < n → wr.cell? ⟨G, j, none⟩ = some (.int .i64 ((os.getD j 0 : Nat) : Int))))
                  case atStart => exact ⟨0, by first | rfl | go_num, by omega, by omega, HB2, HF2, HI2⟩
                  case round =>
                    clear HB2 HF2 HI2
                    obtain ⟨i, rfl, hin, hg1, HB, HF, HI⟩ := hrel
                    by_cases hlt : i < n
                    · have hltz : (i : Int) < (n : Int) := by omega
                      obtain ⟨g, hA, hgl, hcell⟩ := HF.out (by omega)
                      subst hA
                      obtain ⟨L, hL⟩ : ∃ L, os.getD i 0 = L := ⟨_, rfl⟩
                      have hLn : L < n := by rw [← hL]; exact HO.out.lt i hlt
                      have hGi : wr.cell? ⟨G, i, none⟩ = some (.int .i64 (L : Int)) := by rw [← hL]; exact HI.out i hlt
                      obtain ⟨u, hu⟩ : ∃ u, xs.getD L 0 = u := ⟨_, rfl⟩
                      have hgL : wr.cell? ⟨g, L, none⟩ = some (.float .f64 u) := by rw [← hu]; exact hcell L hLn
                      have hL0 : ¬ (L : Int) < 0 := by omega
                      have hL1 : ¬ (n : Int) ≤ (L : Int) := by omega
                      have hLl : (L : Int) < (n : Int) := by omega
                      have d1 : decide ((L : Int) < 0) = false := decide_eq_false (by omega)
                      have d2 : decide ((n : Int) ≤ (L : Int)) = false := decide_eq_false (by omega)
                      have d3 : decide (n ≤ L) = false := decide_eq_false (by omega)
                      by_cases h0 : i = 0
                      · have d4 : decide ((0 : Int) < (i : Int)) = false := decide_eq_false (by omega)
                        have d5 : decide (0 < i) = false := decide_eq_false (by omega)
                        have HI0 := Lib.hid h0
                        clear h0 hL hu hcell
                        go_wp2_with fail
                        go_quiet (fail)
                        have HB3 : Aside (Below wc.heap.size wc (wr.drewN nq)) := HB.out.trans ⟨rfl, rfl, rfl, Nat.le_refl _, fun _ _ => rfl⟩
                        have HF3 : Aside (FlAt (wr.drewN nq) (some ⟨g, 0, none⟩) n xs) := HF.out.drewN nq
                        have HI3 : Aside (∀ j, j < n → (wr.drewN nq).cell? ⟨G, j, none⟩ = some (.int .i64 ((os.getD j 0 : Nat) : Int))) := HI.out
                        clear d1 d2 d3 d4 d5 HB HF HI hGi hgL
                        generalize wr.drewN nq = w7 at HB3 HF3 HI3 ⊢
                        go_wp2
                        go_roundg (n - (i + 1))
                        case measure => omega
                        case rel => exact ⟨i + 1, by first | rfl | go_num | (congr 1; omega), by omega, Nat.le_refl _, HB3, HF3, HI3⟩
                      · obtain ⟨ip, hip⟩ : ∃ p, i = p + 1 := ⟨i - 1, by omega⟩
                        have d4 : decide ((0 : Int) < (i : Int)) = true := decide_eq_true (by omega)
                        have d5 : decide (0 < i) = true := decide_eq_true (by omega)
                        have hw1 : IntKind.i64.wrap ((i : Int) - 1) = (ip : Int) := by rw [IntKind.wrap_i64]; omega
                        obtain ⟨M, hM⟩ : ∃ M, os.getD ip 0 = M := ⟨_, rfl⟩
                        have hMn : M < n := by rw [← hM]; exact HO.out.lt ip (by omega)
                        have hGp : wr.cell? ⟨G, ip, none⟩ = some (.int .i64 (M : Int)) := by rw [← hM]; exact HI.out ip (by omega)
                        obtain ⟨v, hv⟩ : ∃ v, xs.getD M 0 = v := ⟨_, rfl⟩
                        have hgM : wr.cell? ⟨g, M, none⟩ = some (.float .f64 v) := by rw [← hv]; exact hcell M hMn
                        have hipn : (ip : Int) < (n : Int) := by omega
                        have hMl : (M : Int) < (n : Int) := by omega
                        have hux : u < 18446744073709551616 := by rw [← hu]; exact HX.out L hLn
                        have hvx : v < 18446744073709551616 := by rw [← hv]; exact HX.out M hMn
                        have hkey : rank v * 64 + M < rank u * 64 + L := by
                          have := HO.out.strict (by omega) ip i (by omega) hlt
                          rw [hL, hM] at this
                          unfold keyL at this
                          rw [hu, hv] at this
                          exact this
                        have hless : lessB u v = false := (less_rank_false hux hvx).2 (by omega)
                        have CL : Aside (∀ W, Calls Tryd.prog 12 #[.float .f64 u, .float .f64 v] W fun e w' => e = .returned (.bool false) ∧ w' = W) := fun W => (less_any u v hux hvx W).mono fun e w' ⟨he, hw⟩ => ⟨by rw [he, hless], hw.symm⟩
                        have HIP := Lib.hid hip
                        cases hal : alikeB u v
                        · have CA : Aside (∀ W, Calls Tryd.prog 24 #[.float .f64 u, .float .f64 v] W fun e w' => e = .returned (.bool false) ∧ w' = W) := fun W => (alike_any u v hux hvx W).mono fun e w' ⟨he, hw⟩ => ⟨by rw [he, hal], hw.symm⟩
                          clear hip h0 hL hM hu hv hcell hkey hless hal
                          go_wp2_with fail
                          go_quiet ((first | (go_at_call 12; exact Calls.quiet_of_same (CL.out _)) | (go_at_call 24; exact Calls.quiet_of_same (CA.out _))))
                          have HB3 : Aside (Below wc.heap.size wc (wr.drewN nq)) := HB.out.trans ⟨rfl, rfl, rfl, Nat.le_refl _, fun _ _ => rfl⟩
                          have HF3 : Aside (FlAt (wr.drewN nq) (some ⟨g, 0, none⟩) n xs) := HF.out.drewN nq
                          have HI3 : Aside (∀ j, j < n → (wr.drewN nq).cell? ⟨G, j, none⟩ = some (.int .i64 ((os.getD j 0 : Nat) : Int))) := HI.out
                          clear d1 d2 d3 d4 d5 HB HF HI hGi hgL hGp hgM hw1 CL CA
                          generalize wr.drewN nq = w7 at HB3 HF3 HI3 ⊢
                          go_wp2
                          go_roundg (n - (i + 1))
                          case measure => omega
                          case rel => exact ⟨i + 1, by first | rfl | go_num | (congr 1; omega), by omega, Nat.le_refl _, HB3, HF3, HI3⟩
                        · have CA : Aside (∀ W, Calls Tryd.prog 24 #[.float .f64 u, .float .f64 v] W fun e w' => e = .returned (.bool true) ∧ w' = W) := fun W => (alike_any u v hux hvx W).mono fun e w' ⟨he, hw⟩ => ⟨by rw [he, hal], hw.symm⟩
                          have hrk := (alike_rank hux hvx).1 hal
                          have hlm : ¬ (L : Int) < (M : Int) := by omega
                          have d6 : decide ((L : Int) < (M : Int)) = false := decide_eq_false hlm
                          have d7 : decide (L < M) = false := decide_eq_false (by omega)
                          clear hip h0 hL hM hu hv hcell hkey hless hal hrk
                          go_wp2_with fail
                          go_quiet ((first | (go_at_call 12; exact Calls.quiet_of_same (CL.out _)) | (go_at_call 24; exact Calls.quiet_of_same (CA.out _))))
                          have HB3 : Aside (Below wc.heap.size wc (wr.drewN nq)) := HB.out.trans ⟨rfl, rfl, rfl, Nat.le_refl _, fun _ _ => rfl⟩
                          have HF3 : Aside (FlAt (wr.drewN nq) (some ⟨g, 0, none⟩) n xs) := HF.out.drewN nq
                          have HI3 : Aside (∀ j, j < n → (wr.drewN nq).cell? ⟨G, j, none⟩ = some (.int .i64 ((os.getD j 0 : Nat) : Int))) := HI.out
                          clear d1 d2 d3 d4 d5 d6 d7 hlm HB HF HI hGi hgL hGp hgM hw1 CL CA
                          generalize wr.drewN nq = w7 at HB3 HF3 HI3 ⊢
                          go_wp2
                          go_roundg (n - (i + 1))
                          case measure => omega
                          case rel => exact ⟨i + 1, by first | rfl | go_num | (congr 1; omega), by omega, Nat.le_refl _, HB3, HF3, HI3⟩
                    · have hltz : ¬ (i : Int) < (n : Int) := by omega
                      clear hlt hin HI HO
                      obtain ⟨kv, hkv⟩ : ∃ kv, bestTo xs n = kv := ⟨_, rfl⟩
                      have CB2 := Lib.hid (hkv ▸ CB.out wr HF.out)
                      have HKV := Lib.hid hkv
                      clear hkv CB
                      go_wp2_with (go_at_call 27; (with_reducible refine CB2.out.mono ?_); rintro e w' ⟨rfl, rfl⟩)
                      go_loopg [17] n (fun g1 v wr => ∃ q : Nat, v = .int .i64 q ∧ q ≤ n ∧ n - q ≤ g1 ∧ Aside (Below wc.heap.size wc wr) ∧ Aside (FlAt wr Ax n xs))
                      case atStart => exact ⟨0, by first | rfl | go_num, by omega, by omega, HB, HF⟩
                      case round =>
                        clear HB HF
                        obtain ⟨q, rfl, hqn, hg2, HB, HF⟩ := hrel
                        by_cases hlt : q < n
                        · have hltz : (q : Int) < (n : Int) := by omega
                          obtain ⟨g, hA, hgl, hcell⟩ := HF.out (by omega)
                          subst hA
                          obtain ⟨u, hu⟩ : ∃ u, xs.getD q 0 = u := ⟨_, rfl⟩
                          have hgq : wr.cell? ⟨g, q, none⟩ = some (.float .f64 u) := by rw [← hu]; exact hcell q hlt
                          have hux : u < 18446744073709551616 := by rw [← hu]; exact HX.out q hlt
                          rcases HS.out with ⟨h1, h2⟩ | ⟨k, hkn, h1, h3, h4, _⟩
                          · have hk1 : kv = -1 := by rw [← HKV.out, h1]
                            subst hk1
                            have hnan : nanB u = true := by rw [← hu]; exact h2 q hlt
                            have CN1 : Aside (∀ W, Calls Tryd.prog 15 #[.float .f64 u] W fun e w' => e = .returned (.bool true) ∧ w' = W) := fun W => (isNaN_any u W).mono fun e w' ⟨he, hw⟩ => ⟨by rw [he, hnan], hw.symm⟩
                            have CL1 := CN1
                            have d1 : decide ((n : Int) ≤ -1) = false := decide_eq_false (by omega)
                            clear h1 h2 hnan hu hcell HKV HS
                            go_wp2_with fail
                            go_quiet ((first | (go_at_call 15; exact Calls.quiet_of_same (CN1.out _)) | (go_at_call 12; exact Calls.quiet_of_same (CL1.out _))))
                            have HB3 : Aside (Below wc.heap.size wc (wr.drewN nq)) := HB.out.trans ⟨rfl, rfl, rfl, Nat.le_refl _, fun _ _ => rfl⟩
                            have HF3 : Aside (FlAt (wr.drewN nq) (some ⟨g, 0, none⟩) n xs) := HF.out.drewN nq
                            clear d1 hgq CN1 CL1 HB HF
                            generalize wr.drewN nq = w7 at HB3 HF3 ⊢
                            go_wp2
                            go_roundg (n - (q + 1))
                            case measure => omega
                            case rel => exact ⟨q + 1, by first | rfl | go_num | (congr 1; omega), by omega, Nat.le_refl _, HB3, HF3⟩
                          · have hk1 : kv = (k : Int) := by rw [← HKV.out, h1]
                            subst hk1
                            obtain ⟨v, hv⟩ : ∃ v, xs.getD k 0 = v := ⟨_, rfl⟩
                            have hgk : wr.cell? ⟨g, k, none⟩ = some (.float .f64 v) := by rw [← hv]; exact hcell k hkn
                            have hvx : v < 18446744073709551616 := by rw [← hv]; exact HX.out k hkn
                            have hless : lessB v u = false := (less_rank_false hvx hux).2 (by have := h4 q hlt; rw [hu, hv] at this; exact this)
                            have hnan : nanB v = false := by rw [← hv]; exact h3
                            have CN1 : Aside (∀ W, Calls Tryd.prog 15 #[.float .f64 v] W fun e w' => e = .returned (.bool false) ∧ w' = W) := fun W => (isNaN_any v W).mono fun e w' ⟨he, hw⟩ => ⟨by rw [he, hnan], hw.symm⟩
                            have CL1 : Aside (∀ W, Calls Tryd.prog 12 #[.float .f64 v, .float .f64 u] W fun e w' => e = .returned (.bool false) ∧ w' = W) := fun W => (less_any v u hvx hux W).mono fun e w' ⟨he, hw⟩ => ⟨by rw [he, hless], hw.symm⟩
                            have d1 : decide ((k : Int) < 0) = false := decide_eq_false (by omega)
                            have d2 : decide ((n : Int) ≤ (k : Int)) = false := decide_eq_false (by omega)
                            have d3 : decide (n ≤ k) = false := decide_eq_false (by omega)
                            have d4 : decide ((0 : Int) ≤ (k : Int)) = true := decide_eq_true (by omega)
                            have hkl : (k : Int) < (n : Int) := by omega
                            clear h1 h3 h4 hnan hless hu hv hcell HKV HS
                            go_wp2_with fail
                            go_quiet ((first | (go_at_call 15; exact Calls.quiet_of_same (CN1.out _)) | (go_at_call 12; exact Calls.quiet_of_same (CL1.out _))))
                            have HB3 : Aside (Below wc.heap.size wc (wr.drewN nq)) := HB.out.trans ⟨rfl, rfl, rfl, Nat.le_refl _, fun _ _ => rfl⟩
                            have HF3 : Aside (FlAt (wr.drewN nq) (some ⟨g, 0, none⟩) n xs) := HF.out.drewN nq
                            clear d1 d2 d3 d4 hgq hgk CN1 CL1 HB HF
                            generalize wr.drewN nq = w7 at HB3 HF3 ⊢
                            go_wp2
                            go_roundg (n - (q + 1))
                            case measure => omega
                            case rel => exact ⟨q + 1, by first | rfl | go_num | (congr 1; omega), by omega, Nat.le_refl _, HB3, HF3⟩
                        · have hltz : ¬ (q : Int) < (n : Int) := by omega
                          go_wp2_with (first | (go_at_call 17; refine (awake_any _).mono ?_; rintro e w5 ⟨rfl, hb5⟩))
                          go_ret
                          exact ⟨rfl, below_next HB.out hb5⟩
end Go.Proofs.YtgcoodameahkbaaDoor.Fl
