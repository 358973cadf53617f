/- The law ScorePlaces returns true, for every list of at most twenty and one number more. -/
import Derived.Test.YtgcoodameahkbaaDoorStO8
import Derived.Deep.DeepCutAuto
namespace Go.Proofs.YtgcoodameahkbaaDoor.Fl
set_option linter.unusedVariables false
set_option linter.unusedSimpArgs false
open Go.RowKit Go.Proofs.YtgcoodameahkbaaDoor.Stable

set_option maxRecDepth 100000 in
theorem places_long (b : Int) (A : Option Addr) (n c : Nat) (w : World) (h : 20 < n) (hn : n ≤ maxLen) :
    Calls Tryd.prog 9 #[.slice A n c, .int .u64 b] w fun e w' => e = .returned (.bool true) ∧ Below w.heap.size w w' := by
  unfold maxLen at hn
  have hz : (20 : Int) < (n : Int) := by omega
  go_enter Tryd.func9, Tryd.ntmps9
  go_wp2_with (go_at_call 17; refine (awake_any _).mono ?_; rintro e w5 ⟨rfl, hb5⟩)
  go_ret
  exact ⟨rfl, hb5⟩

/-- what is left of the first k, without the place n -/
def restTo (ps : List Nat) (n k : Nat) : List Nat := (ps.take k).filter fun i => i != n
theorem restTo_step (ps : List Nat) (n k : Nat) (hk : k < ps.length) : restTo ps n (k + 1) = if ps.getD k 0 = n then restTo ps n k else restTo ps n k ++ [ps.getD k 0] := by
  unfold restTo
  have e : ps.getD k 0 = ps[k] := by rw [List.getD_eq_getElem?_getD, List.getElem?_eq_getElem hk]; rfl
  rw [List.take_succ_eq_append_getElem hk, List.filter_append, e]
  by_cases h : ps[k] = n
  · rw [if_pos h]; simp [h]
  · rw [if_neg h]; simp [h]
theorem restTo_len (ps : List Nat) (n k : Nat) : (restTo ps n k).length ≤ k := by
  unfold restTo
  refine Nat.le_trans (List.length_filter_le _ _) (List.length_take_le _ _)

set_option maxHeartbeats 8000000 in
set_option maxRecDepth 100000 in
theorem places_law (b : Nat) (xs : List Nat) (n : Nat) (A : Option Addr) (c : Nat) (w : World) (hbb : b < 18446744073709551616) (hl : xs.length = n)
    (h20 : n ≤ 20) (hW : WordsAt w A n xs) (hx : ∀ k, k < n → xs.getD k 0 < 18446744073709551616) :
    Calls Tryd.prog 9 #[.slice A n c, .int .u64 b] w fun e w' => e = .returned (.bool true) ∧ Below w.heap.size w w' := by
  obtain ⟨i0, hi, hz0, hz1, hz2⟩ := info_parts info24
  obtain ⟨i3, ji, jz0, jz1, jz2⟩ := info_parts info3
  have hz : ¬ (20 : Int) < (n : Int) := by omega
  have HX := Lib.hid hx
  have HL := Lib.hid hl
  have CN := Lib.hid (numbers_any xs n A c w (by omega) hW)
  clear hx hW hl
  have HX2 : Aside (∀ k, k < n + 1 → (xs ++ [b]).getD k 0 < 18446744073709551616) := fun k hk => by
    by_cases c : k < n
    · rw [getD_append_lt xs b k (by rw [HL.out]; exact c)]; exact HX.out k c
    · have : k = xs.length := by rw [HL.out]; omega
      rw [this, getD_append_at]; exact hbb
  have HFL : Aside (fl (xs ++ [b]) (n + 1) = fl xs n ++ [.float .f64 b]) := by
    show _ = _
    rw [fl_succ]
    have e := getD_append_at xs b
    rw [HL.out] at e
    rw [e]
    congr 1
    unfold fl
    apply List.map_congr_left
    intro j hj
    rw [getD_append_lt xs b j (by rw [HL.out]; exact List.mem_range.1 hj)]
  go_enter Tryd.func9, Tryd.ntmps9
  go_wp2_with fail
  with_reducible refine CN.out.mono ?_
  rintro e w1 ⟨Ax, cx, rfl, ho1, hbel1⟩
  have HO1 := Lib.hid ho1
  have HF1 : Aside (FlAt w1 Ax n xs) := FlAt.of_own ho1
  have HB1 : Aside (Below w.heap.size w w1) := hbel1
  have hw1 : w.heap.size ≤ w1.heap.size := hbel1.size
  clear ho1 hbel1 CN
  go_wp2_with (at_builtin; refine wpList_copy_fl _ rfl (.tmp 17) rfl w.heap.size n cx Ax xs rfl HO1.out (by omega) ?_; intro v2 w2 ho2 hgr2)
  have HO2 := Lib.hid ho2
  have HB2 : Aside (Below w1.heap.size w1 w2) := (Below.refl _ _).grown hgr2 (Nat.le_refl _) (fun k hk => by cases hk)
  have hsz2 := hgr2.size
  clear ho2 hgr2
  rw [run_frombitsN, Oper.upon_value]
  go_wp2_with (at_builtin; refine wpList_append_own_at _ rfl (.tmp 18) (.tmp 21) 34 rfl w1.heap.size 24 i0 (.float .f64 0) 1 8 Tryd.underlying34 hi hz0 hz1 hz2 rfl (by decide) _ n (fl xs n) rfl (HO2.out.alloc _) ⟨w2.heap.size, 0, none⟩ 1 1 [.float .f64 b] rfl rfl (new_cell _ _ _) (by simp [Value.oneCell']) (by unfold maxLen; omega) (by omega) (by simp; omega) ?_; intro v3 w3 ho3 hgr3 hq1 hq2; clear hq1 hq2)
  rw [← HFL.out] at ho3
  obtain ⟨Am, cm, rfl⟩ := own_slice ho3
  have HB3 : Aside (Below w1.heap.size w1 w3) := (HB2.out.alloc hsz2 _).grown hgr3 (by simp; omega) (fun k hk => (HO2.out.lt k hk).1)
  have HF3 : Aside (FlAt w3 Ax n xs) := HF1.out.below HB3.out
  have HM3 : Aside (FlAt w3 Am (n + 1) (xs ++ [b])) := FlAt.of_own ho3
  have HB4 : Aside (Below w.heap.size w w3) := below_next HB1.out HB3.out
  have CO := Lib.hid (order_at xs n Ax cx w3 (by omega) HF3.out HX.out)
  clear ho3 hgr3 HO2 HO1 HB2 HB3 HB1 HF1 HFL hsz2
  go_wp2_with fail
  with_reducible refine CO.out.mono ?_
  rintro e w4 ⟨G, os, rfl, ho, hown, hbel⟩
  have HOs := Lib.hid ho
  have HI4 : Aside (IntAt w4 (some ⟨G, 0, none⟩) n os) := IntAt.of_own hown
  have hG4 : G < w4.heap.size := (hown.lt G rfl).2
  have HB5 : Aside (Below w.heap.size w w4) := below_next HB4.out hbel
  have CP := Lib.hid (order_at (xs ++ [b]) (n + 1) Am cm w4 (by omega) (HM3.out.below hbel) HX2.out)
  clear ho hown hbel CO HB4 HF3 HM3
  go_wp2_with fail
  with_reducible refine CP.out.mono ?_
  rintro e w5 ⟨G2, ps, rfl, hp, hown2, hbel2⟩
  have HPs := Lib.hid hp
  have HJ5 : Aside (IntAt w5 (some ⟨G2, 0, none⟩) (n + 1) ps) := IntAt.of_own hown2
  have HI5 : Aside (IntAt w5 (some ⟨G, 0, none⟩) n os) := HI4.out.below hbel2
  have hG5 : G < w5.heap.size := Nat.lt_of_lt_of_le hG4 hbel2.size
  have hG6 : G2 < w5.heap.size := (hown2.lt G2 rfl).2
  have HB6 : Aside (Below w.heap.size w w5) := below_next HB5.out hbel2
  have HR : Aside (restTo ps n (n + 1) = os) := by
    have h := hp.rest HL.out (by omega) HOs.out
    show _ = _
    unfold restTo
    rw [List.take_of_length_le (by rw [hp.len]; exact Nat.le_refl _)]
    exact h
  have HPL : Aside (ps.length = n + 1) := hp.len
  have HOL : Aside (os.length = n) := HOs.out.len
  have HPlt : Aside (∀ k, k < n + 1 → ps.getD k 0 < n + 1) := hp.lt
  have hw5 : w.heap.size ≤ w5.heap.size := HB6.out.size
  clear hp hown2 hbel2 CP HI4 hG4 HB5 HPs HOs HX HX2
  go_wp2
  go_loopg [9, 10] (n + 1) (fun g1 vr v wr => ∃ k : Nat, v = .int .i64 k ∧ k ≤ n + 1 ∧ n + 1 - k ≤ g1 ∧ Hid (wr.ownsRow w5.heap.size 3 1 vr (restTo ps n k).length (il (restTo ps n k))) ∧ Aside (Below w5.heap.size w5 wr))
  case atStart => exact ⟨0, by first | rfl | go_num, by omega, by omega, World.ownsRow_nil _ _ _ _, Below.refl _ _⟩
  case round =>
    obtain ⟨k, rfl, hkn, hg1, HRo, HB⟩ := hrel
    have hsz := HB.out.size
    by_cases hlt : k < n + 1
    · have hltz : (k : Int) < (n : Int) + 1 := by omega
      obtain ⟨L, hL⟩ : ∃ L, ps.getD k 0 = L := ⟨_, rfl⟩
      have hGk : wr.cell? ⟨G2, k, none⟩ = some (.int .i64 (L : Int)) := by
        obtain ⟨g, hA, hgl, hc⟩ := HJ5.out (by omega)
        obtain rfl : g = G2 := by injection hA with hA; injection hA with h1; exact h1.symm
        rw [← hL]
        exact (HB.out.cell (p := ⟨g, k, none⟩) hgl).trans (hc k hlt)
      have HST : Aside (restTo ps n (k + 1) = if L = n then restTo ps n k else restTo ps n k ++ [L]) := by
        have := restTo_step ps n k (by rw [HPL.out]; exact hlt)
        rw [hL] at this
        exact this
      clear hL
      have hlen := restTo_len ps n k
      by_cases hLn : L = n
      · have hb1 : ((L : Int) == (n : Int)) = true := by rw [beq_iff_eq]; omega
        have hb2 : ((L : Int) != (n : Int)) = false := by rw [bne_eq_false_iff_eq]; omega
        have HE : Hid (wr.ownsRow w5.heap.size 3 1 u9 (restTo ps n (k + 1)).length (il (restTo ps n (k + 1)))) := by rw [HST.out, if_pos hLn]; exact HRo.out
        clear HRo HST hLn
        go_wp2
        clear hb1 hb2 hGk
        go_roundg (n + 1 - (k + 1))
        case measure => omega
        case rel => exact ⟨k + 1, by first | rfl | go_num | (congr 1; omega), by omega, Nat.le_refl _, HE, HB⟩
      · have hb1 : ((L : Int) == (n : Int)) = false := by rw [beq_eq_false_iff_ne]; omega
        have hb2 : ((L : Int) != (n : Int)) = true := by rw [bne_iff_ne]; omega
        have HST2 : Aside (restTo ps n (k + 1) = restTo ps n k ++ [L]) := by rw [HST.out, if_neg hLn]; rfl
        clear HST hLn
        generalize restTo ps n k = R at *
        go_wp2_with (at_builtin; refine wpList_append_own_at _ rfl (.tmp 52) (.tmp 57) 33 rfl w5.heap.size 3 i3 (.int .i64 0) 1 8 Tryd.underlying33 ji jz0 jz1 jz2 rfl (by decide) _ R.length (il R) rfl (HRo.out.alloc _) ⟨wr.heap.size, 0, none⟩ 1 1 [.int .i64 (L : Int)] rfl rfl (new_cell _ _ _) (by simp [Value.oneCell']) (by unfold maxLen; omega) (by omega) (by simp; omega) ?_; intro v6 w6 ho6 hgr6 hq1 hq2; clear hq1 hq2)
        have HE : Hid (w6.ownsRow w5.heap.size 3 1 v6 (restTo ps n (k + 1)).length (il (restTo ps n (k + 1)))) := by
          rw [HST2.out, List.length_append]
          have e : il (R ++ [L]) = il R ++ [.int .i64 (L : Int)] := by simp [il]
          rw [e]
          exact ho6
        have HB2 : Aside (Below w5.heap.size w5 w6) := (HB.out.alloc hsz _).grown hgr6 (by simp; omega) (fun j h => (HRo.out.lt j h).1)
        clear ho6 hgr6 HB HRo HST2 hb1 hb2 hGk
        go_wp2
        go_roundg (n + 1 - (k + 1))
        case measure => omega
        case rel => exact ⟨k + 1, by first | rfl | go_num | (congr 1; omega), by omega, Nat.le_refl _, HE, HB2⟩
    · have hltz : ¬ (k : Int) < (n : Int) + 1 := by omega
      obtain rfl : k = n + 1 := by omega
      have ho9 := HRo.out
      rw [HR.out, HOL.out] at ho9
      obtain ⟨Ar, cr, rfl⟩ := own_slice ho9
      have CS := Lib.hid (sameInts_true Ar (some ⟨G, 0, none⟩) n cr n os wr (by omega) (IntAt.of_own ho9) (HI5.out.below' (fun g hA => by injection hA with hA; injection hA with h1; omega) HB.out))
      have HB7 : Aside (Below w.heap.size w wr) := HB6.out.trans (HB.out.mono hw5)
      clear ho9 HRo HB HB6 HJ5 HI5
      go_wp2_with fail
      with_reducible refine CS.out.mono ?_
      rintro e w7 ⟨rfl, q, hq⟩
      have HB8 : Aside (Below w.heap.size w w7) := by rw [hq]; exact HB7.out.trans ⟨rfl, rfl, rfl, Nat.le_refl _, fun _ _ => rfl⟩
      clear hq HB7 CS
      go_wp2_with (first | (go_at_call 17; refine (awake_any _).mono ?_; rintro e w8 ⟨rfl, hb8⟩))
      go_ret
      exact ⟨rfl, below_next HB8.out hb8⟩
end Go.Proofs.YtgcoodameahkbaaDoor.Fl
