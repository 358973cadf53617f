/- The law's awake returns true, in every world. -/
import Derived.Test.YtgcoodameahkbaaDoorFl4
namespace Go.Proofs.YtgcoodameahkbaaDoor.Fl
open Go.RowKit

def awakeXs : List Nat := [9221120237041090561, 4611686018427387904, 9218868437227405312, 13830554455654793216]
theorem best_awake (b c : Nat) (w : World) (h0 : w.cell? ⟨b, 0, none⟩ = some (.float .f64 9221120237041090561)) (h1 : w.cell? ⟨b, 1, none⟩ = some (.float .f64 4611686018427387904))
    (h2 : w.cell? ⟨b, 2, none⟩ = some (.float .f64 9218868437227405312)) (h3 : w.cell? ⟨b, 3, none⟩ = some (.float .f64 13830554455654793216)) :
    Calls Tryd.prog 27 #[.slice (some ⟨b, 0, none⟩) 4 c] w fun e w' => e = .returned (.int .i64 2) ∧ w = w' := by
  have hb := best_any b 0 4 c awakeXs w (by omega) (by
    intro k hk
    rcases (by omega : k = 0 ∨ k = 1 ∨ k = 2 ∨ k = 3) with rfl | rfl | rfl | rfl <;> decide) (by
    intro k hk
    rcases (by omega : k = 0 ∨ k = 1 ∨ k = 2 ∨ k = 3) with rfl | rfl | rfl | rfl
    · exact h0
    · exact h1
    · exact h2
    · exact h3)
  have e : bestTo awakeXs 4 = 2 := by kernel_rfl
  rw [e] at hb
  exact hb

set_option maxHeartbeats 1000000 in
theorem awake_any (w : World) : Calls Tryd.prog 17 #[] w fun e w' => e = .returned (.bool true) ∧ Below w.heap.size w w' := by
  have hq : floatBits .quo .f64 (floatOfInt .f64 0) (floatOfInt .f64 0) = none := by kernel_rfl
  have HQ := Lib.hid hq
  clear hq
  have HA1 := Lib.hid (show alikeB 9221120237041090561 9221120237041090561 = true by kernel_rfl)
  have HA2 := Lib.hid (show alikeB 0 9223372036854775808 = false by kernel_rfl)
  have HL := Lib.hid (show lessB 4607182418800017408 4611686018427387904 = true by kernel_rfl)
  go_enter Tryd.func17, Tryd.ntmps17
  go_wp2_with (first | (go_at_call 21; refine (nan_any _).mono ?_; rintro e w' ⟨rfl, rfl⟩) | (go_at_call 43; refine (inf_pos _).mono ?_; rintro e w' ⟨rfl, rfl⟩) | (go_at_call 27; refine (best_awake _ _ _ (by go_simp <;> rfl) (by go_simp <;> rfl) (by go_simp <;> rfl) (by go_simp <;> rfl)).mono ?_; rintro e w' ⟨rfl, rfl⟩) | (go_at_call 13; refine (share_none _ _ HQ.out _).mono ?_; rintro e w' ⟨⟨r, rfl, hr1, hr2⟩, rfl⟩; have HR := Lib.hid hr1; clear hr1) | (go_at_call 15; refine (isNaN_any _ _).mono ?_; rintro e w' ⟨rfl, rfl⟩; rw [HR.out]) | (go_at_call 16; refine (text_half _).mono ?_; rintro e w' ⟨rfl, rfl⟩) | (go_at_call 24; refine (alike_any _ _ (by decide) (by decide) _).mono ?_; rintro e w' ⟨rfl, rfl⟩; first | rw [HA2.out] | (unfold nanC; rw [HA1.out])) | (go_at_call 19; refine (copysign_zero _).mono ?_; rintro e w' ⟨rfl, rfl⟩) | (go_at_call 12; refine (less_any _ _ (by decide) (by decide) _).mono ?_; rintro e w' ⟨rfl, rfl⟩; rw [HL.out]))
  go_ret
  exact ⟨rfl, by repeat (first | exact Below.refl _ _ | apply Below.drew | refine Below.alloc ?_ (Nat.le_refl _) _)⟩
end Go.Proofs.YtgcoodameahkbaaDoor.Fl
