/- slices.symMergeCmpFunc where one stands on the left. -/
import Derived.Test.YtgcoodameahkbaaDoorStW2
namespace Go.Proofs.YtgcoodameahkbaaDoor.Stable
set_option linter.unusedVariables false
set_option linter.unusedSimpArgs false
open Go.Shelf Go.RowKit Go.Lib Go.Sort
variable {α : Type} [Inhabited α]

/-- What the merge asks of the comparison. -/
def Judges (cf : α → α → Int) (I K : α → Int) : Prop := ∀ x y, I x < I y → (cf y x < 0 ↔ K y < K x)

set_option maxHeartbeats 16000000 in
set_option maxRecDepth 1000000 in
/-- slices.symMergeCmpFunc: one on the left. -/
theorem sym_one (enc : α → Value) (cf : α → α → Int) (I K : α → Int) (hJ : Judges cf I K) (g : Nat) (cb : Array Value) (blk off cap a b : Nat) (d0 d : Array α) (w0 w : World)
    (eg : ∀ args w, (callFunc g args).run Tryd.prog w = .ok (.enter g args) w) (hcmp : CmpLays1 Tryd.prog g cb enc cf blk off d0.size w0)
    (R : Row1 enc w0 blk off d0) (hs : d0.size = d.size) (S : SW enc w0 blk off d w) (hab : a + 1 < b) (hb : b ≤ d.size) (hsz : d.size < 4611686018427387904) (T : Two I K a (a + 1) b d) :
    Calls Tryd.prog 57 #[.slice (some ⟨blk, off, none⟩) d.size cap, .int .i64 a, .int .i64 ((a : Int) + 1), .int .i64 b, .func (.func g) #[] cb] w fun e w' => e = .returned (.tuple #[]) ∧ ∃ d', SW enc w0 blk off d' w' ∧ Done K a b d d' := by
  have HC : Aside _ := hcmp
  have S0 : Aside (SW enc w0 blk off d w) := S
  have T0 : Aside _ := T
  have HS := Lib.hid hs
  have hcl0 := R.hO.cells
  simp only [Value.cells] at hcl0
  have hst := R.hO.store Tryd.prog
  have mixed := mixedT
  clear S hcmp T hs
  have e1 : IntKind.i64.wrap ((a : Int) + 1 - (a : Int)) = 1 := by rw [IntKind.wrap_i64]; omega
  go_enter Tryd.func57, Tryd.ntmps57
  go_wp2
  clear e1
  go_loopg [10, 11] b (fun g1 vi vj wr => ∃ (i j : Nat), vi = .int .i64 i ∧ vj = .int .i64 j ∧ a + 1 ≤ i ∧ i ≤ j ∧ j ≤ b ∧ j - i ≤ g1 ∧ Aside (SW enc w0 blk off d wr) ∧ Aside (i = a + 1 ∨ K d[i - 1]! < K d[a]!) ∧ Aside (j = b ∨ K d[a]! ≤ K d[j]!))
  case atStart => exact ⟨a + 1, b, by go_num, rfl, by omega, by omega, by omega, by omega, S0, Or.inl rfl, Or.inl rfl⟩
  case round =>
    clear S0
    obtain ⟨i, j, rfl, rfl, hi, hij, hj, hg1, S1, HL, HH⟩ := hrel
    by_cases hlt : i < j
    · have hltz : (i : Int) < (j : Int) := by omega
      obtain ⟨h, hh, hih, hhj⟩ : ∃ h : Nat, ((i : Int) + (j : Int)) / 2 = (h : Int) ∧ i ≤ h ∧ h < j := ⟨(i + j) / 2, by omega, by omega, by omega⟩
      go_wp2_with fail
      clear hh
      have hI : I d[a]! < I d[h]! := T0.out.lf a h (by omega) (by omega) (by omega) (by omega)
      by_cases hk : K d[h]! < K d[a]!
      · have hj1 := (hJ d[a]! d[h]! hI).2 hk
        obtain ⟨xN1, hxN1⟩ : ∃ q, q = h := ⟨_, rfl⟩
        have ex1 : ((h : Int)).toNat = xN1 := by omega
        have px1 : (0 : Int) ≤ (h : Int) := by omega
        have bx1 : (h : Int) < (d.size : Int) := by omega
        have rx1 : IntKind.i64.wrap ((h : Int)) = (h : Int) := by rw [IntKind.wrap_i64]; omega
        obtain ⟨yN1, hyN1⟩ : ∃ q, q = a := ⟨_, rfl⟩
        have ey1 : ((a : Int)).toNat = yN1 := by omega
        have py1 : (0 : Int) ≤ (a : Int) := by omega
        have by1 : (a : Int) < (d.size : Int) := by omega
        have ry1 : IntKind.i64.wrap ((a : Int)) = (a : Int) := by rw [IntKind.wrap_i64]; omega
        obtain ⟨vx1, hvx1⟩ : ∃ x, x = d[h]! := ⟨_, rfl⟩
        obtain ⟨vy1, hvy1⟩ : ∃ x, x = d[a]! := ⟨_, rfl⟩
        have lx1 := S1.out.cl R (by have := HS.out; omega) (h) (by omega)
        have ly1 := S1.out.cl R (by have := HS.out; omega) (a) (by omega)
        rw [← hvx1, ← hxN1] at lx1
        rw [← hvy1, ← hyN1] at ly1
        have hc1 := S1.out.cmp HC.out (by have := HS.out; omega) vx1 vy1
        have hv1 : cf vx1 vy1 < 0 := by rw [hvx1, hvy1]; exact hj1
        have hd1 : decide (cf vx1 vy1 < 0) = true := decide_eq_true hv1
        clear hvx1 hvy1 hxN1 hyN1
        go_wp2_with fail
        go_quiet_grown (first | (go_at_fn g; refine Calls.grown_of (hc1 _ _)))
        have S1b : Aside (SW enc w0 blk off d (grow (wr.drewN nq) osq)) := S1.out.grown nq osq
        clear lx1 ly1 hc1 S1
        generalize grow (wr.drewN nq) osq = w2 at S1b ⊢
        clear nq osq
        clear ex1 ey1
        clear hj1
        have HL1 : Aside (h + 1 = a + 1 ∨ K d[h + 1 - 1]! < K d[a]!) := Or.inr hk
        clear hk hI HL
        go_wp2
        go_roundg (j - (h + 1))
        case measure => omega
        case rel => exact ⟨h + 1, j, by first | rfl | go_num | (congr 1; omega), rfl, by omega, by omega, by omega, Nat.le_refl _, S1b, HL1, HH⟩
      · have hj1 : ¬ cf d[h]! d[a]! < 0 := fun hc => hk ((hJ d[a]! d[h]! hI).1 hc)
        obtain ⟨xN2, hxN2⟩ : ∃ q, q = h := ⟨_, rfl⟩
        have ex2 : ((h : Int)).toNat = xN2 := by omega
        have px2 : (0 : Int) ≤ (h : Int) := by omega
        have bx2 : (h : Int) < (d.size : Int) := by omega
        have rx2 : IntKind.i64.wrap ((h : Int)) = (h : Int) := by rw [IntKind.wrap_i64]; omega
        obtain ⟨yN2, hyN2⟩ : ∃ q, q = a := ⟨_, rfl⟩
        have ey2 : ((a : Int)).toNat = yN2 := by omega
        have py2 : (0 : Int) ≤ (a : Int) := by omega
        have by2 : (a : Int) < (d.size : Int) := by omega
        have ry2 : IntKind.i64.wrap ((a : Int)) = (a : Int) := by rw [IntKind.wrap_i64]; omega
        obtain ⟨vx2, hvx2⟩ : ∃ x, x = d[h]! := ⟨_, rfl⟩
        obtain ⟨vy2, hvy2⟩ : ∃ x, x = d[a]! := ⟨_, rfl⟩
        have lx2 := S1.out.cl R (by have := HS.out; omega) (h) (by omega)
        have ly2 := S1.out.cl R (by have := HS.out; omega) (a) (by omega)
        rw [← hvx2, ← hxN2] at lx2
        rw [← hvy2, ← hyN2] at ly2
        have hc2 := S1.out.cmp HC.out (by have := HS.out; omega) vx2 vy2
        have hv2 : ¬ cf vx2 vy2 < 0 := by rw [hvx2, hvy2]; exact hj1
        have hd2 : decide (cf vx2 vy2 < 0) = false := decide_eq_false hv2
        clear hvx2 hvy2 hxN2 hyN2
        go_wp2_with fail
        go_quiet_grown (first | (go_at_fn g; refine Calls.grown_of (hc2 _ _)))
        have S1b : Aside (SW enc w0 blk off d (grow (wr.drewN nq) osq)) := S1.out.grown nq osq
        clear lx2 ly2 hc2 S1
        generalize grow (wr.drewN nq) osq = w2 at S1b ⊢
        clear nq osq
        clear ex2 ey2
        clear hj1
        have HH1 : Aside (h = b ∨ K d[a]! ≤ K d[h]!) := Or.inr (by omega)
        clear hk hI HH
        go_wp2
        go_roundg (h - i)
        case measure => omega
        case rel => exact ⟨i, h, rfl, rfl, by omega, by omega, by omega, Nat.le_refl _, S1b, HL, HH1⟩
    · have hltz : ¬ (i : Int) < (j : Int) := by omega
      obtain rfl : i = j := by omega
      have HLO : Aside (∀ k, a + 1 ≤ k → k < i → K d[k]! < K d[a]!) := fun k hk hk2 => by
        rcases HL.out with h | h
        · omega
        · by_cases q : k = i - 1
          · rw [q]; exact h
          · have := T0.out.r k (i - 1) (by omega) (by omega) (by omega)
            omega
      have HHI : Aside (∀ k, i ≤ k → k < b → K d[a]! ≤ K d[k]!) := fun k hk hk2 => by
        rcases HH.out with h | h
        · omega
        · by_cases q : i = k
          · rw [← q]; exact h
          · have := T0.out.r i k (by omega) (by omega) (by omega)
            omega
      clear HL HH hlt
      go_wp2
      go_loopg [13] i (fun g1 vi wr => ∃ (k : Nat) (dk : Array α), vi = .int .i64 k ∧ a ≤ k ∧ k + 1 ≤ i ∧ i - k ≤ g1 ∧ Aside (SW enc w0 blk off dk wr) ∧ Hid (dk.size = d.size) ∧ Aside (Rot d dk a (a + 1) (k + 1)) ∧ Aside (PermIn a b d dk))
      case atStart => exact ⟨a, d, rfl, by omega, by omega, by omega, S1, (rfl : d.size = d.size), Rot.refl1 d a, permIn_refl d a b⟩
      case round =>
        clear S1
        obtain ⟨k, dk, rfl, hak, hki, hg2, S2, HK, HR, HP⟩ := hrel
        by_cases hlt : k + 1 < i
        · have hltz2 : (k : Int) < (i : Int) - 1 := by omega
          have HR1 : Aside (Rot d (swp dk k (k + 1)) a (a + 1) (k + 2)) := HR.out.up (by omega) (by omega)
          have HP1 : Aside (PermIn a b d (swp dk k (k + 1))) := permIn_trans _ _ _ _ _ HP.out (swp_permIn dk a b k (k + 1) (by omega) (by omega) (by omega) (by omega) (by have := HK.out; omega))
          clear HR HP
          obtain ⟨xN3, hxN3⟩ : ∃ q, q = k := ⟨_, rfl⟩
          have ex3 : ((k : Int)).toNat = xN3 := by omega
          have px3 : (0 : Int) ≤ (k : Int) := by omega
          have bx3 : (k : Int) < (d.size : Int) := by omega
          have rx3 : IntKind.i64.wrap ((k : Int)) = (k : Int) := by rw [IntKind.wrap_i64]; omega
          obtain ⟨yN3, hyN3⟩ : ∃ q, q = k + 1 := ⟨_, rfl⟩
          have ey3 : ((k : Int) + 1).toNat = yN3 := by omega
          have py3 : (0 : Int) ≤ (k : Int) + 1 := by omega
          have by3 : (k : Int) + 1 < (d.size : Int) := by omega
          have ry3 : IntKind.i64.wrap ((k : Int) + 1) = (k : Int) + 1 := by rw [IntKind.wrap_i64]; omega
          obtain ⟨vx3, hvx3⟩ : ∃ x, x = dk[k]! := ⟨_, rfl⟩
          obtain ⟨vy3, hvy3⟩ : ∃ x, x = dk[k + 1]! := ⟨_, rfl⟩
          have S33 : Aside (SW enc w0 blk off (swp dk (k) (k + 1)) ((wr.setCell ⟨blk, off + xN3, none⟩ (enc vy3)).setCell ⟨blk, off + yN3, none⟩ (enc vx3)).drew) := by rw [hxN3, hyN3, hvx3, hvy3]; exact S2.out.swapped R (k) (k + 1) (by have := HK.out; omega) (by have := HK.out; omega)
          have ca3 := S2.out.c1 R (by have := HS.out; have := HK.out; omega) (k) (by have := HK.out; omega)
          have cb3 := S2.out.c1 R (by have := HS.out; have := HK.out; omega) (k + 1) (by have := HK.out; omega)
          have fa3 := S2.out.f1 R (by have := HS.out; have := HK.out; omega) (k) (by have := HK.out; omega)
          have fb3 := S2.out.f1 R (by have := HS.out; have := HK.out; omega) (k + 1) (by have := HK.out; omega)
          obtain ⟨u3, cc3⟩ := S2.out.c2 R (by have := HS.out; have := HK.out; omega) (k) (k + 1) (by have := HK.out; omega) (by have := HK.out; omega) (enc vy3)
          rw [← hyN3, ← hxN3] at cc3
          rw [← hvx3, ← hxN3] at ca3
          rw [← hvy3, ← hyN3] at cb3
          rw [← hxN3] at fa3
          rw [← hyN3] at fb3
          have HK3 : Hid ((swp dk (k) (k + 1)).size = d.size) := by rw [Sort.size_swp]; exact HK.out
          clear S2 hvx3 hvy3 hxN3 hyN3
          go_wp2_with fail
          go_big_region_o
          clear ca3 cb3 cc3 fa3 fb3
          generalize ((wr.setCell ⟨blk, off + xN3, none⟩ (enc vy3)).setCell ⟨blk, off + yN3, none⟩ (enc vx3)).drew = w3 at S33 ⊢
          clear ex3 ey3
          go_wp2
          go_roundg (i - (k + 1))
          case measure => omega
          case rel => exact ⟨k + 1, swp dk k (k + 1), by first | rfl | go_num | (congr 1; omega), by omega, by omega, Nat.le_refl _, S33, HK3, HR1, HP1⟩
        · have hltz2 : ¬ (k : Int) < (i : Int) - 1 := by omega
          have D : Aside (Done K a b d dk) := done_up T0.out hi hj hb HLO.out HHI.out (by rw [show i = k + 1 by omega]; exact HR.out) HP.out
          clear HR HP HLO HHI HK hlt
          go_wp2
          refine bodyPost_ret (results_none rfl _ _ _) rfl ?_
          exact ⟨rfl, dk, S2.out, D.out⟩
end Go.Proofs.YtgcoodameahkbaaDoor.Stable
