/- The law ScoreBest returns true, where there are some numbers. -/
import Derived.Test.YtgcoodameahkbaaDoorStO6
namespace Go.Proofs.YtgcoodameahkbaaDoor.Fl
set_option linter.unusedVariables false
set_option linter.unusedSimpArgs false
open Go.RowKit Go.Proofs.YtgcoodameahkbaaDoor.Stable

theorem fl_one (xs : List Nat) (n : Nat) : ∀ u ∈ fl xs n, u.oneCell' = true := by
  intro u hu
  unfold fl at hu
  obtain ⟨j, _, rfl⟩ := List.mem_map.1 hu
  rfl

theorem best_long (A : Option Addr) (n c : Nat) (w : World) (h : 30 < n) (hn : n ≤ maxLen) :
    Calls Tryd.prog 8 #[.slice A n c] w fun e w' => e = .returned (.bool true) ∧ Below w.heap.size w w' := by
  unfold maxLen at hn
  have hz : (30 : Int) < (n : Int) := by omega
  go_enter Tryd.func8, Tryd.ntmps8
  go_wp2_with (go_at_call 17; refine (awake_any _).mono ?_; rintro e w5 ⟨rfl, hb5⟩)
  go_ret
  exact ⟨rfl, hb5⟩

set_option maxHeartbeats 4000000 in
set_option maxRecDepth 100000 in
theorem best_law (xs : List Nat) (n b off c : Nat) (w : World) (h0 : 0 < n) (h30 : n ≤ 30) (hl : xs.length = n) (hb : b < w.heap.size) (hx : ∀ k, k < n → xs.getD k 0 < 18446744073709551616)
    (hc : ∀ k, k < n → w.cell? ⟨b, off + k, none⟩ = some (.int .u64 ((xs.getD k 0 : Nat) : Int))) :
    Calls Tryd.prog 8 #[.slice (some ⟨b, off, none⟩) n c] w fun e w' => e = .returned (.bool true) ∧ Below w.heap.size w w' := by
  obtain ⟨i0, hi, hz0, hz1, hz2⟩ := info_parts info24
  have hz : ¬ (30 : Int) < (n : Int) := by omega
  obtain ⟨m, hm0⟩ : ∃ m, n = m + 1 := ⟨n - 1, by omega⟩
  have hm : (n : Int) - 1 = (m : Int) := by omega
  have hne : ((n : Int) == 0) = false := by rw [beq_eq_false_iff_ne]; omega
  have HM0 := Lib.hid hm0
  clear hm0
  have HX := Lib.hid hx
  have HL := Lib.hid hl
  have CN := Lib.hid (numbers_some xs n b off c w (by omega) hb hc)
  have HS := Lib.hid (best_spec xs n hx)
  have HMore := Lib.hid (best_more_nan xs nanC (show nanB nanC = true by kernel_rfl))
  obtain ⟨kv, hkv⟩ : ∃ kv, bestTo xs n = kv := ⟨_, rfl⟩
  have HKV := Lib.hid hkv
  clear hx hc hl hkv
  go_enter Tryd.func8, Tryd.ntmps8
  go_wp2_with fail
  with_reducible refine CN.out.mono ?_
  rintro e w1 ⟨v, rfl, ho1, hbel1⟩
  obtain ⟨g, cap, rfl, hg1, hg2, hg3, hg4, hg5⟩ := own_form ho1 h0
  have HO1 := Lib.hid ho1
  have HB1 := Lib.hid hbel1
  have HG5 : Aside (∀ j, j < n → w1.cell? ⟨g, j, none⟩ = some (.float .f64 (xs.getD j 0))) := fun j hj => (hg5 j hj).trans (fl_get xs n j hj)
  have HG6 : Aside (∀ j, j < n → w1.cell? ⟨g, 0 + j, none⟩ = some (.float .f64 (xs.getD j 0))) := fun j hj => by rw [Nat.zero_add]; exact HG5.out j hj
  have CB1 := Lib.hid (HKV.out ▸ best_any g 0 n cap xs w1 (by omega) HX.out HG6.out)
  clear ho1 hbel1 hg5 CN
  go_wp2_with fail
  with_reducible refine CB1.out.mono ?_
  rintro e w' ⟨rfl, rfl⟩
  have HNEW : Aside (∀ (j : Nat) u, (fl xs n)[j]? = some u → w1.cell? ((⟨g, 0, none⟩ : Addr).add j) = some u) := HO1.out.cells rfl
  go_wp2_with (at_builtin; refine wpList_append_own_at _ rfl (.const (.slice none 0 0)) (.tmp 15) 34 rfl w1.heap.size 24 i0 (.float .f64 0) 1 8 Tryd.underlying34 hi hz0 hz1 hz2 rfl (by decide) _ 0 [] rfl (World.ownsRow_nil _ _ _ _) ⟨g, 0, none⟩ n cap (fl xs n) rfl (by simp [fl]) HNEW.out (fl_one xs n) (by unfold maxLen; omega) (by omega) (Nat.le_refl _) ?_; intro v2 w2 ho2 hgr2 _ hbl2)
  have HO2 := Lib.hid ho2
  have HB2 : Aside (Below w1.heap.size w1 w2) := (Below.refl _ _).grown hgr2 (Nat.le_refl _) (fun k hk => by cases hk)
  have HV2 : Aside (∀ k, v2.ownBlock = some k → w1.heap.size ≤ k) := fun k hk => (ho2.lt k hk).1
  have hsz2 := hgr2.size
  clear ho2 hgr2 hbl2 HNEW
  go_wp2_with (first | (go_at_call 21; (with_reducible refine (nan_any _).mono ?_); rintro e w' ⟨rfl, rfl⟩) | (at_builtin; refine wpList_append_own_at _ rfl (.tmp 16) (.tmp 18) 34 rfl w1.heap.size 24 i0 (.float .f64 0) 1 8 Tryd.underlying34 hi hz0 hz1 hz2 rfl (by decide) _ (0 + n) ([] ++ fl xs n) rfl (HO2.out.alloc _) ⟨w2.heap.size, 0, none⟩ 1 1 [.float .f64 nanC] rfl rfl (new_cell _ _ _) (by simp [Value.oneCell']) (by unfold maxLen; omega) (by omega) (by simp; omega) ?_; intro v3 w3 ho3 hgr3 _ _))
  obtain ⟨g3, cap3, rfl, _, _, _, _, hc3⟩ := own_form ho3 (by omega)
  have HB3 : Aside (Below w1.heap.size w1 w3) := (HB2.out.alloc hsz2 _).grown hgr3 (by simp; omega) HV2.out
  have HX3 : Aside (∀ k, k < 0 + n + 1 → (xs ++ [nanC]).getD k 0 < 18446744073709551616) := fun k hk => by
    by_cases c : k < n
    · rw [getD_append_lt xs nanC k (by rw [HL.out]; exact c)]; exact HX.out k c
    · have : k = xs.length := by rw [HL.out]; omega
      rw [this, getD_append_at]; decide
  have HC3 : Aside (∀ k, k < 0 + n + 1 → w3.cell? ⟨g3, 0 + k, none⟩ = some (.float .f64 ((xs ++ [nanC]).getD k 0))) := fun k hk => by
    rw [Nat.zero_add, hc3 k hk, List.nil_append]
    by_cases c : k < n
    · rw [List.getElem?_append_left (by simpa [fl] using c), fl_get xs n k c, getD_append_lt xs nanC k (by rw [HL.out]; exact c)]
    · have : k = n := by omega
      rw [this, List.getElem?_append_right (by simp [fl]), fl_len, Nat.sub_self]
      have e := getD_append_at xs nanC
      rw [HL.out] at e
      rw [e]; rfl
  have CB3 : Hid (Calls Tryd.prog 27 #[.slice (some ⟨g3, 0, none⟩) (0 + n + 1) cap3] w3 fun e w' => e = .returned (.int .i64 kv) ∧ w3 = w') := by
    have h := best_any g3 0 (0 + n + 1) cap3 (xs ++ [nanC]) w3 (by omega) HX3.out HC3.out
    have e : bestTo (xs ++ [nanC]) (0 + n + 1) = kv := by have := HMore.out; rw [HL.out] at this; rw [Nat.zero_add, this, HKV.out]
    rw [e] at h
    exact h
  have HG7 : Aside (∀ j, j < n → w3.cell? ⟨g, 0 + j, none⟩ = some (.float .f64 (xs.getD j 0))) := fun j hj => (HB3.out.cell (p := ⟨g, 0 + j, none⟩) hg2).trans (HG6.out j hj)
  have HB4 : Aside (Below w.heap.size w w3) := below_next HB1.out HB3.out
  have hsz3 : w1.heap.size ≤ w3.heap.size := HB3.out.size
  have CO := Lib.hid (order_any xs n (some ⟨g, 0, none⟩) cap w3 (by omega) (fun _ => ⟨g, 0, rfl, by omega, HG7.out⟩) HX.out)
  clear ho3 hgr3 hc3 HX3 HC3 HO2 HB2 HV2 HMore HB1 HO1
  go_wp2_with fail
  with_reducible refine CB3.out.mono ?_
  rintro e w' ⟨rfl, rfl⟩
  go_wp2_with fail
  with_reducible refine CO.out.mono ?_
  rintro e w4 ⟨G, os, rfl, ho, hown, hbel⟩
  have HO := Lib.hid ho
  have HB5 : Aside (Below w.heap.size w w4) := below_next HB4.out hbel
  have HG8 : Aside (∀ j, j < n → w4.cell? ⟨g, j, none⟩ = some (.float .f64 (xs.getD j 0))) := fun j hj => (hbel.cell (p := ⟨g, j, none⟩) (show g < w3.heap.size by omega)).trans (by have := HG7.out j hj; rw [Nat.zero_add] at this; exact this)
  obtain ⟨L, hL⟩ : ∃ L, os.getD (n - 1) 0 = L := ⟨_, rfl⟩
  have hLn : L < n := by rw [← hL]; exact ho.lt (n - 1) (by omega)
  have hGL : w4.cell? ⟨G, m, none⟩ = some (.int .i64 (L : Int)) := by
    rw [hown.cellAt m (by have := HM0.out; omega), List.getElem?_map, List.getElem?_eq_getElem (by have := HM0.out; have := ho.len; omega)]
    have e : n - 1 = m := by have := HM0.out; omega
    rw [e, List.getD_eq_getElem?_getD, List.getElem?_eq_getElem (by have := HM0.out; have := ho.len; omega)] at hL
    simp only [Option.getD_some] at hL
    simp [hL]
  have hgL : w4.cell? ⟨g, L, none⟩ = some (.float .f64 (xs.getD L 0)) := HG8.out L hLn
  have HMax : Aside (∀ j, j < n → rank (xs.getD j 0) ≤ rank (xs.getD L 0)) := fun j hj => by have := ho.lastmax (by omega) j hj; rw [hL] at this; exact this
  have hxL := HX.out L hLn
  obtain ⟨y, hy⟩ : ∃ y, xs.getD L 0 = y := ⟨_, rfl⟩
  rw [hy] at hgL hxL
  have HY := Lib.hid hy
  have hL0 : ¬ (L : Int) < 0 := by omega
  have hL1 : ¬ (n : Int) ≤ (L : Int) := by omega
  have hml : (m : Int) < (n : Int) := by omega
  have hLl : (L : Int) < (n : Int) := by omega
  clear ho hown hbel HB4 HG5 HG6 HG7 CB1 CB3 CO hL hy HB3
  cases hN : nanB y
  · have HN := Lib.hid hN
    obtain ⟨k, hkn, rfl, hk3, hk4, hk5⟩ : ∃ k : Nat, k < n ∧ kv = (k : Int) ∧ nanB (xs.getD k 0) = false ∧ (∀ j, j < n → rank (xs.getD j 0) ≤ rank (xs.getD k 0)) ∧ (∀ j, j < k → rank (xs.getD j 0) < rank (xs.getD k 0)) := by
      rcases HS.out with ⟨_, h2⟩ | ⟨k, h1, h2, h3⟩
      · exfalso
        have := h2 L hLn
        rw [HY.out, hN] at this; cases this
      · exact ⟨k, h1, by rw [← HKV.out, h2], h3⟩
    clear hN HS HKV
    obtain ⟨x, hxk⟩ : ∃ x, xs.getD k 0 = x := ⟨_, rfl⟩
    have hgk : w4.cell? ⟨g, k, none⟩ = some (.float .f64 x) := by rw [← hxk]; exact HG8.out k hkn
    have hxx : x < 18446744073709551616 := by rw [← hxk]; exact HX.out k hkn
    have hal : alikeB x y = true := (alike_rank hxx hxL).2 (by
      have h1 := HMax.out k hkn
      have h2 := hk4 L hLn
      rw [HY.out, hxk] at h1 h2
      omega)
    have CA : Aside (∀ W, Calls Tryd.prog 24 #[.float .f64 x, .float .f64 y] W fun e w' => e = .returned (.bool true) ∧ w' = W) := fun W => (alike_any x y hxx hxL W).mono fun e w' ⟨he, hw⟩ => ⟨by rw [he, hal], hw.symm⟩
    have HL5 : Aside (∀ j, j < k → alikeB (xs.getD j 0) x = false) := fun j hj => by
      have h1 := hk5 j hj
      rw [hxk] at h1
      have := mt (alike_rank (HX.out j (by omega)) hxx).1 (by omega)
      simpa using this
    have hk0 : ¬ (k : Int) < 0 := by omega
    have hk1 : ¬ (n : Int) ≤ (k : Int) := by omega
    have hkl : (k : Int) < (n : Int) := by omega
    have hkm : ((k : Int) == -1) = false := by rw [beq_eq_false_iff_ne]; omega
    clear hal hk3 hk4 hk5 hxk HMax
    go_wp2_with (first | (go_at_call 15; (with_reducible refine (isNaN_any _ _).mono ?_); rintro e w' ⟨rfl, rfl⟩; rw [HN.out]))
    have d1 : decide ((k : Int) < 0) = false := decide_eq_false (by omega)
    have d2 : decide ((n : Int) ≤ (k : Int)) = false := decide_eq_false (by omega)
    have d3 : decide (n ≤ k) = false := decide_eq_false (by omega)
    go_quiet ((go_at_call 24; exact Calls.quiet_of_same (CA.out _)))
    have HB6 : Aside (Below w.heap.size w (w4.drewN nq)) := HB5.out.trans ⟨rfl, rfl, rfl, Nat.le_refl _, fun _ _ => rfl⟩
    have HG9 : Aside (∀ j, j < n → (w4.drewN nq).cell? ⟨g, j, none⟩ = some (.float .f64 (xs.getD j 0))) := fun j hj => HG8.out j hj
    have hgk6 : (w4.drewN nq).cell? ⟨g, k, none⟩ = some (.float .f64 x) := hgk
    clear d1 d2 d3 HB5 HG8 hgk hgL hGL CA
    generalize w4.drewN nq = w6 at HB6 HG9 hgk6 ⊢
    go_wp2
    go_loopg [6] n (fun g1 v6 wr => ∃ i : Nat, v6 = .int .i64 i ∧ i ≤ k ∧ k - i ≤ g1 ∧ Aside (Below w.heap.size w wr) ∧ Aside (∀ j, j < n → wr.cell? ⟨g, j, none⟩ = some (.float .f64 (xs.getD j 0))) ∧ Aside (wr.cell? ⟨g, k, none⟩ = some (.float .f64 x)))
    case atStart => exact ⟨0, by first | rfl | go_num, by omega, by omega, HB6, HG9, hgk6⟩
    case round =>
      clear HB6 HG9 hgk6
      obtain ⟨i, rfl, hik, hg1, HB6, HG9, HG10⟩ := hrel
      by_cases hlt : i < k
      · have hltz : (i : Int) < (k : Int) := by omega
        have hin : (i : Int) < (n : Int) := by omega
        obtain ⟨z, hz⟩ : ∃ z, xs.getD i 0 = z := ⟨_, rfl⟩
        have hgi : wr.cell? ⟨g, i, none⟩ = some (.float .f64 z) := by rw [← hz]; exact HG9.out i (by omega)
        have hgk : wr.cell? ⟨g, k, none⟩ = some (.float .f64 x) := HG10.out
        have hzx : z < 18446744073709551616 := by rw [← hz]; exact HX.out i (by omega)
        have hal : alikeB z x = false := by rw [← hz]; exact HL5.out i hlt
        have CA : Aside (∀ W, Calls Tryd.prog 24 #[.float .f64 z, .float .f64 x] W fun e w' => e = .returned (.bool false) ∧ w' = W) := fun W => (alike_any z x hzx hxx W).mono fun e w' ⟨he, hw⟩ => ⟨by rw [he, hal], hw.symm⟩
        clear hal hz
        go_wp2_with fail
        go_quiet ((go_at_call 24; exact Calls.quiet_of_same (CA.out _)))
        have HB7 : Aside (Below w.heap.size w (wr.drewN nq)) := HB6.out.trans ⟨rfl, rfl, rfl, Nat.le_refl _, fun _ _ => rfl⟩
        have HG11 : Aside (∀ j, j < n → (wr.drewN nq).cell? ⟨g, j, none⟩ = some (.float .f64 (xs.getD j 0))) := fun j hj => HG9.out j hj
        have HG12 : Aside ((wr.drewN nq).cell? ⟨g, k, none⟩ = some (.float .f64 x)) := HG10.out
        clear HB6 HG9 HG10 hgi hgk CA
        generalize wr.drewN nq = w7 at HB7 HG11 HG12 ⊢
        go_wp2
        go_roundg (k - (i + 1))
        case measure => omega
        case rel => exact ⟨i + 1, by first | rfl | go_num | (congr 1; omega), by omega, Nat.le_refl _, HB7, HG11, HG12⟩
      · have hltz : ¬ (i : Int) < (k : Int) := by omega
        go_wp2_with (first | (go_at_call 17; refine (awake_any _).mono ?_; rintro e w5 ⟨rfl, hb5⟩))
        go_ret
        exact ⟨rfl, below_next HB6.out hb5⟩
  · have HN := Lib.hid hN
    have hk : kv = -1 := by
      rcases HS.out with ⟨h1, _⟩ | ⟨k, h1, h2, h3, h4, _⟩
      · rw [← HKV.out, h1]
      · exfalso
        have h5 := HMax.out k h1
        rw [HY.out, (nan_rank hxL).1 hN] at h5
        have h6 := (rank_bd (HX.out k h1)).1
        have := (nan_rank (HX.out k h1)).2 (by omega)
        rw [h3] at this; cases this
    subst hk
    clear hN HS HKV HMax
    go_wp2_with (first | (go_at_call 15; (with_reducible refine (isNaN_any _ _).mono ?_); rintro e w' ⟨rfl, rfl⟩; rw [HN.out]) | (go_at_call 17; refine (awake_any _).mono ?_; rintro e w5 ⟨rfl, hb5⟩))
    go_ret
    exact ⟨rfl, below_next HB5.out hb5⟩
end Go.Proofs.YtgcoodameahkbaaDoor.Fl
