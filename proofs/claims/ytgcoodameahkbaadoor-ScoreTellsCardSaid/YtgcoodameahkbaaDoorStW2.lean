/- What slices.rotateCmpFunc does: two parts change their places. -/
import Derived.Test.YtgcoodameahkbaaDoorStW1
import Derived.Lib.Hide
namespace Go.Proofs.YtgcoodameahkbaaDoor.Stable
set_option linter.unusedVariables false
set_option linter.unusedSimpArgs false
open Go.Shelf Go.RowKit Go.Lib Go.Sort
variable {α : Type} [Inhabited α]

theorem swapRange_i (enc : α → Value) (fv : Value) (blk off cap a b n : Nat) (d0 d : Array α) (w0 w : World) (z : Nat) (A B N : Int) (hz : d.size = z) (hA : (a : Int) = A) (hB : (b : Int) = B) (hN : (n : Int) = N)
    (R : Row1 enc w0 blk off d0) (hs : d0.size = d.size) (SS : SW enc w0 blk off d w) (hab : a + n ≤ b) (hb : b + n ≤ d.size) (hsz : d.size < 4611686018427387904) :
    Calls Tryd.prog 66 #[.slice (some ⟨blk, off, none⟩) z cap, .int .i64 A, .int .i64 B, .int .i64 N, fv] w fun e w' => e = .returned (.tuple #[]) ∧ ∃ d', SW enc w0 blk off d' w' ∧ Swapd d d' a b n ∧ PermIn a (b + n) d d' := by
  subst hz hA hB hN
  exact swapRange_c enc fv blk off cap a b n d0 d w0 w R hs SS hab hb hsz

set_option maxHeartbeats 16000000 in
set_option maxRecDepth 1000000 in
/-- slices.rotateCmpFunc at elements of one cell. -/
theorem rotate_c (enc : α → Value) (fv : Value) (blk off cap a m b : Nat) (d0 d : Array α) (w0 w : World)
    (R : Row1 enc w0 blk off d0) (hs : d0.size = d.size) (S : SW enc w0 blk off d w) (ham : a < m) (hmb : m < b) (hb : b ≤ d.size) (hsz : d.size < 4611686018427387904) :
    Calls Tryd.prog 63 #[.slice (some ⟨blk, off, none⟩) d.size cap, .int .i64 a, .int .i64 m, .int .i64 b, fv] w fun e w' => e = .returned (.tuple #[]) ∧ ∃ d', SW enc w0 blk off d' w' ∧ Rot d d' a m b ∧ PermIn a b d d' := by
  have S0 : Aside (SW enc w0 blk off d w) := S
  clear S
  have e1 : IntKind.i64.wrap ((m : Int) - (a : Int)) = ((m - a : Nat) : Int) := by rw [IntKind.wrap_i64]; omega
  have e2 : IntKind.i64.wrap ((b : Int) - (m : Int)) = ((b - m : Nat) : Int) := by rw [IntKind.wrap_i64]; omega
  go_enter Tryd.func63, Tryd.ntmps63
  go_wp2
  go_loopg [10, 11] b (fun g1 vi vj wr => ∃ (i j : Nat) (dk : Array α), vi = .int .i64 i ∧ vj = .int .i64 j ∧ 0 < i ∧ 0 < j ∧ i ≤ m - a ∧ j ≤ b - m ∧ i + j ≤ g1 ∧ dk.size = d.size ∧ Aside (SW enc w0 blk off dk wr) ∧
    Aside (∀ d', Rot dk d' (m - i) m (m + j) → Rot d d' a m b) ∧ Aside (PermIn a b d dk))
  case atStart => exact ⟨m - a, b - m, d, rfl, rfl, by omega, by omega, Nat.le_refl _, Nat.le_refl _, by omega, rfl, S0, (fun d' h => by rw [show m - (m - a) = a by omega, show m + (b - m) = b by omega] at h; exact h : ∀ d', Rot d d' (m - (m - a)) m (m + (b - m)) → Rot d d' a m b), permIn_refl d a b⟩
  case round =>
    clear S0 e1 e2
    obtain ⟨i, j, dk, rfl, rfl, hi0, hj0, him, hjb, hg1, hsk, S1, HF, HP⟩ := hrel
    have hmi : i ≤ m := by omega
    have HK := Lib.hid hsk
    clear hsk
    rcases Nat.lt_trichotomy i j with hlt | heq | hgt
    · have c1 : ¬ (i : Int) = (j : Int) := by omega
      have c2 : ¬ (j : Int) < (i : Int) := by omega
      go_wp2_with fail
      with_reducible refine (swapRange_i enc fv blk off cap (m - i) (m + j - i) i d0 dk w0 wr d.size ((m : Int) - i) ((m : Int) + j - i) i HK.out (by omega) (by omega) rfl R (by rw [HK.out]; exact hs) S1.out (by omega) (by have := HK.out; omega) (by have := HK.out; omega)).mono ?_
      rintro e w1 ⟨rfl, d1, S2, W1, P1⟩
      have hs1 := W1.size
      have HK1 := Lib.hid (hs1.trans HK.out)
      have HF1 : Aside (∀ d', Rot d1 d' (m - i) m (m + (j - i)) → Rot d d' a m b) := fun d' r => HF.out d' (Rot.of_lt hlt hmi W1 r)
      have HP1 : Aside (PermIn a b d d1) := permIn_trans _ _ _ _ _ HP.out (permIn_mono _ _ _ _ _ _ (by omega) (by omega) (by have := HK.out; omega) P1)
      have S3 : Aside (SW enc w0 blk off d1 w1) := S2
      clear S1 HF HP S2 W1 P1 hs1 c1 c2
      go_wp2
      go_roundg (i + (j - i))
      case measure => omega
      case rel => exact ⟨i, j - i, d1, rfl, by first | rfl | go_num | (congr 1; omega), by omega, by omega, by omega, by omega, by omega, HK1.out, S3, HF1, HP1⟩
    · subst heq
      go_wp2_with fail
      with_reducible refine (swapRange_i enc fv blk off cap (m - i) m i d0 dk w0 wr d.size ((m : Int) - i) m i HK.out (by omega) rfl rfl R (by rw [HK.out]; exact hs) S1.out (by omega) (by have := HK.out; omega) (by have := HK.out; omega)).mono ?_
      rintro e w1 ⟨rfl, d1, S2, W1, P1⟩
      have HF1 : Aside (Rot d d1 a m b) := HF.out d1 (Rot.of_swap W1 hmi)
      have HP1 : Aside (PermIn a b d d1) := permIn_trans _ _ _ _ _ HP.out (permIn_mono _ _ _ _ _ _ (by omega) (by omega) (by have := HK.out; omega) P1)
      have S3 : Aside (SW enc w0 blk off d1 w1) := S2
      clear S1 HF HP S2 W1 P1
      go_wp2
      go_end0
      exact ⟨rfl, d1, S3.out, HF1.out, HP1.out⟩
    · have c1 : ¬ (i : Int) = (j : Int) := by omega
      have c2 : (j : Int) < (i : Int) := by omega
      go_wp2_with fail
      with_reducible refine (swapRange_i enc fv blk off cap (m - i) m j d0 dk w0 wr d.size ((m : Int) - i) m j HK.out (by omega) rfl rfl R (by rw [HK.out]; exact hs) S1.out (by omega) (by have := HK.out; omega) (by have := HK.out; omega)).mono ?_
      rintro e w1 ⟨rfl, d1, S2, W1, P1⟩
      have hs1 := W1.size
      have HK1 := Lib.hid (hs1.trans HK.out)
      have HF1 : Aside (∀ d', Rot d1 d' (m - (i - j)) m (m + j) → Rot d d' a m b) := fun d' r => HF.out d' (Rot.of_gt hgt hmi W1 r)
      have HP1 : Aside (PermIn a b d d1) := permIn_trans _ _ _ _ _ HP.out (permIn_mono _ _ _ _ _ _ (by omega) (by omega) (by have := HK.out; omega) P1)
      have S3 : Aside (SW enc w0 blk off d1 w1) := S2
      clear S1 HF HP S2 W1 P1 hs1 c1 c2
      go_wp2
      go_roundg ((i - j) + j)
      case measure => omega
      case rel => exact ⟨i - j, j, d1, by first | rfl | go_num | (congr 1; omega), rfl, by omega, by omega, by omega, by omega, by omega, HK1.out, S3, HF1, HP1⟩
end Go.Proofs.YtgcoodameahkbaaDoor.Stable
