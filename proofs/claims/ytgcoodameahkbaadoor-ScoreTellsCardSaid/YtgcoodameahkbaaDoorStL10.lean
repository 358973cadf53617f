/- The law ScoreTells returns true, for every list of at most forty, every three words and every two numbers. -/
import Derived.Test.YtgcoodameahkbaaDoorStTC
namespace Go.Proofs.YtgcoodameahkbaaDoor.Fl
set_option linter.unusedVariables false
set_option linter.unusedSimpArgs false
open Go.RowKit Go.Proofs.YtgcoodameahkbaaDoor.Stable

set_option maxRecDepth 100000 in
theorem tells_long (a b d f t : Int) (A : Option Addr) (n c : Nat) (w : World) (h : 40 < n) (hn : n ≤ maxLen) :
    Calls Tryd.prog 10 #[.slice A n c, .int .u64 a, .int .u64 b, .int .u64 d, .int .i64 f, .int .i64 t] w fun e w' => e = .returned (.bool true) ∧ Below w.heap.size w w' := by
  unfold maxLen at hn
  have hz : (40 : Int) < (n : Int) := by omega
  go_enter Tryd.func10, Tryd.ntmps10
  go_wp2_with (go_at_call 17; refine (awake_any _).mono ?_; rintro e w5 ⟨rfl, hb5⟩)
  go_ret
  exact ⟨rfl, hb5⟩

theorem clamp_lt {x lo hi : Nat} (hx : x < 18446744073709551616) (hlo : lo < 18446744073709551616) (hhi : hi < 18446744073709551616) : clampB x lo hi < 18446744073709551616 := by
  unfold clampB
  split
  · decide
  · split
    · exact hlo
    · split
      · exact hhi
      · exact hx
theorem St.drewN {w W : World} (h : St w W) (q : Nat) : St w (W.drewN q) := h.next ⟨rfl, rfl, rfl, Nat.le_refl _, fun _ _ => rfl⟩
theorem own_below {w w1 : World} {B E n : Nat} {v : Value} {xs : List Value} (h : w.ownsRow B E 1 v n xs) (hb : Below w.heap.size w w1) : w1.ownsRow B E 1 v n xs :=
  h.kept (row := none) ⟨hb.os, hb.tape, hb.output, hb.size, fun k hk _ => hb.block k hk⟩ (by cases hv : v.ownBlock <;> simp)
theorem own_cap {w : World} {B E n c : Nat} {A : Option Addr} {xs : List Value} (h : w.ownsRow B E 1 (.slice A n c) n xs) : n ≤ c ∧ c ≤ maxLen := by
  rcases h.2 with ⟨h1, h2⟩ | ⟨g, cap, cur, h1, _, _, h2, h3, _⟩
  · injection h1 with _ _ h3; subst h2 h3; exact ⟨Nat.le_refl _, Nat.zero_le _⟩
  · injection h1 with _ _ h4; subst h4; exact ⟨h2, h3⟩

set_option maxHeartbeats 4000000 in
set_option maxRecDepth 100000 in
theorem tells_law (x y z : Nat) (fr tt : Int) (xs : List Nat) (n : Nat) (A : Option Addr) (c : Nat) (w : World) (hxx : x < 18446744073709551616) (hyy : y < 18446744073709551616) (hzz : z < 18446744073709551616)
    (h40 : n ≤ 40) (hW : WordsAt w A n xs) (hx : ∀ k, k < n → xs.getD k 0 < 18446744073709551616) (htab : Lib.TabIs Tryd.prog w "internal/strconv.uint64pow10" .u64 Lib.pow10Tab) :
    Calls Tryd.prog 10 #[.slice A n c, .int .u64 x, .int .u64 y, .int .u64 z, .int .i64 fr, .int .i64 tt] w fun e w' => e = .returned (.bool true) ∧ Below w.heap.size w w' := by
  have hz : ¬ (40 : Int) < (n : Int) := by omega
  have HX := Lib.hid hx
  have CN := Lib.hid (numbers_any xs n A c w (by omega) hW)
  have HT := Lib.hid htab
  clear hx hW htab
  go_enter Tryd.func10, Tryd.ntmps10
  go_wp2_with fail
  with_reducible refine CN.out.mono ?_
  rintro e w1 ⟨Ax, cx, rfl, ho1, hbel1⟩
  obtain ⟨hcap, hcm⟩ := own_cap ho1
  have HF1 : Aside (FlAt w1 Ax n xs) := FlAt.of_own ho1
  have HS1 : Hid (St w w1) := (St.init HT.out).next hbel1
  have hw1 : w.heap.size ≤ w1.heap.size := hbel1.size
  clear ho1 hbel1 CN
  go_wp2_with fail
  rw [run_frombitsN, Oper.upon_value]
  go_wp2_with fail
  rw [run_frombitsN, Oper.upon_value]
  go_wp2_with fail
  rw [run_frombitsN, Oper.upon_value]
  go_wp2_with fail
  have CO := Lib.hid (order_at xs n Ax cx w1 h40 HF1.out HX.out)
  with_reducible refine CO.out.mono ?_
  rintro e w2 ⟨G, os, rfl, ho, hown, hbel⟩
  have HOs := Lib.hid ho
  have HOw := Lib.hid hown
  have HB12 := Lib.hid hbel
  have HS2 : Hid (St w w2) := HS1.out.next hbel
  have HF2 : Aside (FlAt w2 Ax n xs) := HF1.out.below hbel
  clear ho hown hbel CO HF1 HS1
  go_wp2_with fail
  with_reducible refine (rorder_any Ax n cx xs w2 h40 HF2.out HX.out).mono ?_
  rintro e w3 ⟨A2, c2, os2, rfl, ho, hown, hbel⟩
  have heq : os2 = os := ho.unique HOs.out (by omega)
  subst heq
  have HI2 : Aside (IntAt w3 A2 n os2) := IntAt.of_own hown
  have HI1 : Aside (IntAt w3 (some ⟨G, 0, none⟩) n os2) := (IntAt.of_own HOw.out).below hbel
  have HOw3 : Hid (w3.ownsRow w1.heap.size 3 1 (.slice (some ⟨G, 0, none⟩) n n) n (il os2)) := own_below HOw.out hbel
  have HS3 : Hid (St w w3) := HS2.out.next hbel
  have HF3 : Aside (FlAt w3 Ax n xs) := HF2.out.below hbel
  have hsz3 : w1.heap.size ≤ w3.heap.size := Nat.le_trans HB12.out.size hbel.size
  clear ho hown hbel HOw HOs HF2 HS2 HB12
  go_wp2_with fail
  with_reducible refine (sameInts_true (some ⟨G, 0, none⟩) A2 n n c2 os2 w3 (by omega) HI1.out HI2.out).mono ?_
  rintro e w4 ⟨rfl, q4, hq4⟩
  subst hq4
  have HF4 : Aside (FlAt (w3.drewN q4) Ax n xs) := HF3.out.drewN q4
  have HS4 : Hid (St w (w3.drewN q4)) := HS3.out.drewN q4
  have HOw4 : Hid ((w3.drewN q4).ownsRow w1.heap.size 3 1 (.slice (some ⟨G, 0, none⟩) n n) n (il os2)) := HOw3.out
  have hsz4 : w1.heap.size ≤ (w3.drewN q4).heap.size := hsz3
  clear HF3 HS3 HOw3 HI1 HI2 hsz3
  generalize w3.drewN q4 = w4 at HF4 HS4 HOw4 hsz4 ⊢
  obtain ⟨kv, hkv⟩ : ∃ kv, bestTo xs n = kv := ⟨_, rfl⟩
  have CB := Lib.hid (hkv ▸ best_at xs n Ax cx w4 (by omega) HF4.out HX.out)
  have CR := Lib.hid (hkv ▸ rbest_any Ax n cx xs w4 (by omega) HF4.out HX.out)
  clear hkv
  go_wp2_with fail
  with_reducible refine CB.out.mono ?_
  rintro e w' ⟨rfl, rfl⟩
  go_wp2_with fail
  with_reducible refine CR.out.mono ?_
  rintro e w5 ⟨rfl, q5, hq5⟩
  subst hq5
  have HF5 : Aside (FlAt (w4.drewN q5) Ax n xs) := HF4.out.drewN q5
  have HS5 : Hid (St w (w4.drewN q5)) := HS4.out.drewN q5
  have HOw5 : Hid ((w4.drewN q5).ownsRow w1.heap.size 3 1 (.slice (some ⟨G, 0, none⟩) n n) n (il os2)) := HOw4.out
  have hsz5 : w1.heap.size ≤ (w4.drewN q5).heap.size := hsz4
  clear HF4 HS4 HOw4 hsz4 CB CR
  generalize w4.drewN q5 = w5 at HF5 HS5 HOw5 hsz5 ⊢
  go_wp2_with fail
  with_reducible refine (mean_any Ax n cx xs w5 (by omega) hcap hcm HF5.out HX.out).mono ?_
  rintro e w6 ⟨r1, rfl, hr1, hr1b, q6, hq6⟩
  subst hq6
  have HR1 := Lib.hid hr1
  have HF6 : Aside (FlAt (w5.drewN q6) Ax n xs) := HF5.out.drewN q6
  have HS6 : Hid (St w (w5.drewN q6)) := HS5.out.drewN q6
  have HOw6 : Hid ((w5.drewN q6).ownsRow w1.heap.size 3 1 (.slice (some ⟨G, 0, none⟩) n n) n (il os2)) := HOw5.out
  have hsz6 : w1.heap.size ≤ (w5.drewN q6).heap.size := hsz5
  clear HF5 HS5 HOw5 hsz5 hr1
  generalize w5.drewN q6 = w6 at HF6 HS6 HOw6 hsz6 ⊢
  go_wp2_with fail
  with_reducible refine (rmean_any Ax n cx xs w6 (by omega) HF6.out HX.out).mono ?_
  rintro e w7 ⟨r2, rfl, hr2, hr2b, q7, hq7⟩
  subst hq7
  have hal : alikeB r1 r2 = true := alike_cls (HR1.out.trans hr2.symm) hr1b hr2b
  have CA : Aside (∀ W, Calls Tryd.prog 31 #[.float .f64 r1, .float .f64 r2] W fun e w' => e = .returned (.bool true) ∧ W = w') := fun W => (ralike_any r1 r2 hr1b hr2b W).mono fun e w' ⟨he, hw⟩ => ⟨by rw [he, hal], hw⟩
  have HS7 : Hid (St w (w6.drewN q7)) := HS6.out.drewN q7
  have HOw7 : Hid ((w6.drewN q7).ownsRow w1.heap.size 3 1 (.slice (some ⟨G, 0, none⟩) n n) n (il os2)) := HOw6.out
  have hsz7 : w1.heap.size ≤ (w6.drewN q7).heap.size := hsz6
  clear HF6 HS6 HOw6 hsz6 hr2 hal HR1
  generalize w6.drewN q7 = w7 at HS7 HOw7 hsz7 ⊢
  go_wp2_with fail
  with_reducible refine (CA.out _).mono ?_
  rintro e w' ⟨rfl, rfl⟩
  go_wp2_with fail
  with_reducible refine (overInts_any w7 w1.heap.size G n (il os2) (by omega) HOw7.out hsz7).mono ?_
  rintro e w8 ⟨rfl, hb8⟩
  have HB8 : Below w.heap.size w w8 := HS7.out.1.trans (hb8.mono hw1)
  have HS8 : Hid (St w w8) := ⟨HB8, Joins.tab_stays gTab HT.out HB8 (Nat.le_refl _)⟩
  clear HS7 HOw7 hsz7 hb8 CA HB8
  obtain ⟨b1, hb1⟩ : ∃ b, alikeB x y = b := ⟨_, rfl⟩
  obtain ⟨b2, hb2⟩ : ∃ b, lessB x y = b := ⟨_, rfl⟩
  obtain ⟨cv, hcv⟩ : ∃ v, clampB x y z = v := ⟨_, rfl⟩
  obtain ⟨tv, htv⟩ : ∃ v, textB x = v := ⟨_, rfl⟩
  have C1 : Aside (∀ W, Calls Tryd.prog 24 #[.float .f64 x, .float .f64 y] W fun e w' => e = .returned (.bool b1) ∧ W = w') := fun W => hb1 ▸ alike_any x y hxx hyy W
  have C2 : Aside (∀ W, Calls Tryd.prog 31 #[.float .f64 x, .float .f64 y] W fun e w' => e = .returned (.bool b1) ∧ W = w') := fun W => hb1 ▸ ralike_any x y hxx hyy W
  have C3 : Aside (∀ W, Calls Tryd.prog 12 #[.float .f64 x, .float .f64 y] W fun e w' => e = .returned (.bool b2) ∧ W = w') := fun W => hb2 ▸ less_any x y hxx hyy W
  have C4 : Aside (∀ W, Calls Tryd.prog 34 #[.float .f64 x, .float .f64 y] W fun e w' => e = .returned (.bool b2) ∧ W = w') := fun W => hb2 ▸ rless_any x y hxx hyy W
  have C5 : Aside (∀ W, Calls Tryd.prog 23 #[.float .f64 x, .float .f64 y, .float .f64 z] W fun e w' => e = .returned (.float .f64 cv) ∧ W = w') := fun W => hcv ▸ clamp_any x y z hxx hyy hzz W
  have C6 : Aside (∀ W, Calls Tryd.prog 35 #[.float .f64 x, .float .f64 y, .float .f64 z] W fun e w' => e = .returned (.float .f64 cv) ∧ W = w') := fun W => hcv ▸ rclamp_any x y z hxx hyy hzz W
  have hcvb : cv < 18446744073709551616 := by rw [← hcv]; exact clamp_lt hxx hyy hzz
  have C7 : Aside (∀ W, Calls Tryd.prog 31 #[.float .f64 cv, .float .f64 cv] W fun e w' => e = .returned (.bool true) ∧ W = w') := fun W => (ralike_any cv cv hcvb hcvb W).mono fun e w' ⟨he, hw⟩ => ⟨by rw [he, alike_refl], hw⟩
  have C8 : Aside (∀ W, St w W → Calls Tryd.prog 16 #[.float .f64 x] W fun e w' => e = .returned (.string tv) ∧ St w w') := fun W hW => (text_all x hxx W hW.2).mono fun e w' ⟨he, hb⟩ => ⟨by rw [he, htv], hW.next hb⟩
  have C9 : Aside (∀ W, St w W → Calls Tryd.prog 36 #[.float .f64 x] W fun e w' => e = .returned (.string tv) ∧ St w w') := fun W hW => (rtext_all x hxx W).mono fun e w' ⟨he, hb⟩ => ⟨by rw [he, htv], hW.next hb⟩
  clear hb1 hb2 hcv htv HX
  go_wp2_with (first | (go_at_call 24; (with_reducible refine (C1.out _).mono ?_); rintro e w' ⟨rfl, rfl⟩) | (go_at_call 31; first | ((with_reducible refine (C2.out _).mono ?_); rintro e w' ⟨rfl, rfl⟩) | ((with_reducible refine (C7.out _).mono ?_); rintro e w' ⟨rfl, rfl⟩)) | (go_at_call 12; (with_reducible refine (C3.out _).mono ?_); rintro e w' ⟨rfl, rfl⟩) | (go_at_call 34; (with_reducible refine (C4.out _).mono ?_); rintro e w' ⟨rfl, rfl⟩) | (go_at_call 23; (with_reducible refine (C5.out _).mono ?_); rintro e w' ⟨rfl, rfl⟩) | (go_at_call 35; (with_reducible refine (C6.out _).mono ?_); rintro e w' ⟨rfl, rfl⟩))
  with_reducible refine (C8.out _ HS8.out).mono ?_
  rintro e w9 ⟨rfl, hs9⟩
  have HS9 := Lib.hid hs9
  clear hs9 HS8
  go_wp2_with fail
  with_reducible refine (C9.out _ HS9.out).mono ?_
  rintro e w10 ⟨rfl, hs10⟩
  have HS10 := Lib.hid hs10
  clear hs10 HS9 C8 C9 C1 C2 C3 C4 C5 C6 C7
  go_wp2_with fail
  with_reducible refine (share_cls fr tt w10).mono ?_
  rintro e w11 ⟨r3, rfl, hr3, hr3b, q11, hq11⟩
  subst hq11
  have HR3 := Lib.hid hr3
  have HS11 : Hid (St w (w10.drewN q11)) := HS10.out.drewN q11
  clear hr3 HS10
  generalize w10.drewN q11 = w11 at HS11 ⊢
  go_wp2_with fail
  with_reducible refine (rshare_cls fr tt w11).mono ?_
  rintro e w12 ⟨r4, rfl, hr4, hr4b, q12, hq12⟩
  subst hq12
  have hal : alikeB r3 r4 = true := alike_cls (HR3.out.trans hr4.symm) hr3b hr4b
  have CA : Aside (∀ W, Calls Tryd.prog 31 #[.float .f64 r3, .float .f64 r4] W fun e w' => e = .returned (.bool true) ∧ W = w') := fun W => (ralike_any r3 r4 hr3b hr4b W).mono fun e w' ⟨he, hw⟩ => ⟨by rw [he, hal], hw⟩
  have HS12 : Hid (St w (w11.drewN q12)) := HS11.out.drewN q12
  clear hr4 HS11 hal HR3
  generalize w11.drewN q12 = w12 at HS12 ⊢
  go_wp2_with (first | (go_at_call 31; (with_reducible refine (CA.out _).mono ?_); rintro e w' ⟨rfl, rfl⟩) | (go_at_call 17; refine (awake_any _).mono ?_; rintro e w13 ⟨rfl, hb13⟩))
  go_ret
  exact ⟨rfl, below_next HS12.out.1 hb13⟩
end Go.Proofs.YtgcoodameahkbaaDoor.Fl
