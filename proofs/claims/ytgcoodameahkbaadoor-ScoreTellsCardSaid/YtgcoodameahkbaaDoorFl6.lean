/- The law ScoreClamps returns true, for every three floats by their bits. -/
import Derived.Test.YtgcoodameahkbaaDoorFl5
namespace Go.Proofs.YtgcoodameahkbaaDoor.Fl
open Go.RowKit

theorem less_irr (a : Nat) : lessB a a = false := by
  unfold lessB
  cases h : nanB a
  · unfold belowB
    unfold nanB at h
    simp only [bne_eq_false_iff_eq] at h
    rw [h]
    simp
  · simp
theorem alike_refl (a : Nat) : alikeB a a = true := by unfold alikeB; rw [less_irr]; rfl

theorem run_frombitsN (n : Nat) (w : World) : (callFunc 22 #[.int .u64 (n : Int)]).run Tryd.prog w = .ok (.value (.float .f64 n)) w := run_frombits n w

/-- what the law's walk needs of its numbers, where the result is a number y -/
theorem clamps_walk (x lo hi y : Nat) (hx : x < 18446744073709551616) (hlo : lo < 18446744073709551616) (hhi : hi < 18446744073709551616) (hy : y < 18446744073709551616)
    (n1 : nanB x = false) (n2 : nanB lo = false) (n3 : nanB hi = false) (l1 : lessB hi lo = false) (c1 : clampB x lo hi = y) (c2 : clampB y lo hi = y) (l2 : lessB y lo = false) (l3 : lessB hi y = false)
    (hin : (lessB x lo = true ∨ lessB hi x = true) ∨ x = y) (w : World) :
    Calls Tryd.prog 6 #[.int .u64 (x : Int), .int .u64 (lo : Int), .int .u64 (hi : Int)] w fun e w' => e = .returned (.bool true) ∧ Below w.heap.size w w' := by
  have hr1 := fun W => run_frombitsN x W
  have hr2 := fun W => run_frombitsN lo W
  have hr3 := fun W => run_frombitsN hi W
  have N1 := Lib.hid n1; clear n1
  have N2 := Lib.hid n2; clear n2
  have N3 := Lib.hid n3; clear n3
  have L1 := Lib.hid l1; clear l1
  have L2 := Lib.hid l2; clear l2
  have L3 := Lib.hid l3; clear l3
  have C1 := Lib.hid c1; clear c1
  have C2 := Lib.hid c2; clear c2
  have A := Lib.hid (alike_refl y)
  rcases hin with (h | h) | rfl
  · have I1 := Lib.hid h; clear h
    go_enter Tryd.func6, Tryd.ntmps6
    go_wp2_with (first | (go_at_call 15; refine (isNaN_any _ _).mono ?_; rintro e w' ⟨rfl, rfl⟩; first | rw [N1.out] | rw [N2.out] | rw [N3.out]) | (go_at_call 12; refine (less_any _ _ (by assumption) (by assumption) _).mono ?_; rintro e w' ⟨rfl, rfl⟩; first | rw [L1.out] | rw [I1.out] | rw [L2.out] | rw [L3.out]) | (go_at_call 23; refine (clamp_any _ _ _ (by assumption) (by assumption) (by assumption) _).mono ?_; rintro e w' ⟨rfl, rfl⟩; first | rw [C1.out] | rw [C2.out]) | (go_at_call 24; refine (alike_any _ _ (by assumption) (by assumption) _).mono ?_; rintro e w' ⟨rfl, rfl⟩; rw [A.out]) | (go_at_call 17; refine (awake_any _).mono ?_; rintro e w' ⟨rfl, hbel⟩))
    go_ret
    exact ⟨rfl, by assumption⟩
  · have I1 := Lib.hid h; clear h
    cases h0 : lessB x lo
    all_goals
      have I0 := Lib.hid h0; clear h0
      go_enter Tryd.func6, Tryd.ntmps6
      go_wp2_with (first | (go_at_call 15; refine (isNaN_any _ _).mono ?_; rintro e w' ⟨rfl, rfl⟩; first | rw [N1.out] | rw [N2.out] | rw [N3.out]) | (go_at_call 12; refine (less_any _ _ (by assumption) (by assumption) _).mono ?_; rintro e w' ⟨rfl, rfl⟩; first | rw [L1.out] | rw [I0.out] | rw [I1.out] | rw [L2.out] | rw [L3.out]) | (go_at_call 23; refine (clamp_any _ _ _ (by assumption) (by assumption) (by assumption) _).mono ?_; rintro e w' ⟨rfl, rfl⟩; first | rw [C1.out] | rw [C2.out]) | (go_at_call 24; refine (alike_any _ _ (by assumption) (by assumption) _).mono ?_; rintro e w' ⟨rfl, rfl⟩; rw [A.out]) | (go_at_call 17; refine (awake_any _).mono ?_; rintro e w' ⟨rfl, hbel⟩))
      go_ret
      exact ⟨rfl, by assumption⟩
  · go_enter Tryd.func6, Tryd.ntmps6
    go_wp2_with (first | (go_at_call 15; refine (isNaN_any _ _).mono ?_; rintro e w' ⟨rfl, rfl⟩; first | rw [N1.out] | rw [N2.out] | rw [N3.out]) | (go_at_call 12; refine (less_any _ _ (by assumption) (by assumption) _).mono ?_; rintro e w' ⟨rfl, rfl⟩; first | rw [L1.out] | rw [L2.out] | rw [L3.out]) | (go_at_call 23; refine (clamp_any _ _ _ (by assumption) (by assumption) (by assumption) _).mono ?_; rintro e w' ⟨rfl, rfl⟩; first | rw [C1.out] | rw [C2.out]) | (go_at_call 24; refine (alike_any _ _ (by assumption) (by assumption) _).mono ?_; rintro e w' ⟨rfl, rfl⟩; rw [A.out]) | (go_at_call 17; refine (awake_any _).mono ?_; rintro e w' ⟨rfl, hbel⟩))
    go_ret
    exact ⟨rfl, by assumption⟩

theorem clamps_none (x lo hi : Nat) (hx : x < 18446744073709551616) (hlo : lo < 18446744073709551616) (hhi : hi < 18446744073709551616)
    (h : (nanB x || nanB lo || nanB hi || lessB hi lo) = true) (w : World) :
    Calls Tryd.prog 6 #[.int .u64 (x : Int), .int .u64 (lo : Int), .int .u64 (hi : Int)] w fun e w' => e = .returned (.bool true) ∧ Below w.heap.size w w' := by
  have hr1 := fun W => run_frombitsN x W
  have hr2 := fun W => run_frombitsN lo W
  have hr3 := fun W => run_frombitsN hi W
  have hc : clampB x lo hi = nanC := by unfold clampB; rw [if_pos h]
  have C := Lib.hid hc; clear hc
  have NC := Lib.hid (show nanB nanC = true by kernel_rfl)
  cases n1 : nanB x <;> cases n2 : nanB lo <;> cases n3 : nanB hi <;> cases l1 : lessB hi lo
  all_goals first
    | (rw [n1, n2, n3, l1] at h; exact absurd h (by decide))
    | (clear h
       have N1 := Lib.hid n1; clear n1
       have N2 := Lib.hid n2; clear n2
       have N3 := Lib.hid n3; clear n3
       have L1 := Lib.hid l1; clear l1
       go_enter Tryd.func6, Tryd.ntmps6
       go_wp2_with (first | (go_at_call 15; refine (isNaN_any _ _).mono ?_; rintro e w' ⟨rfl, rfl⟩; first | rw [NC.out] | rw [N1.out] | rw [N2.out] | rw [N3.out]) | (go_at_call 12; refine (less_any _ _ (by assumption) (by assumption) _).mono ?_; rintro e w' ⟨rfl, rfl⟩; rw [L1.out]) | (go_at_call 23; refine (clamp_any _ _ _ (by assumption) (by assumption) (by assumption) _).mono ?_; rintro e w' ⟨rfl, rfl⟩; rw [C.out]) | (go_at_call 17; refine (awake_any _).mono ?_; rintro e w' ⟨rfl, hbel⟩))
       go_ret
       exact ⟨rfl, by assumption⟩)

theorem clamps_any (x lo hi : Nat) (hx : x < 18446744073709551616) (hlo : lo < 18446744073709551616) (hhi : hi < 18446744073709551616) (w : World) :
    Calls Tryd.prog 6 #[.int .u64 (x : Int), .int .u64 (lo : Int), .int .u64 (hi : Int)] w fun e w' => e = .returned (.bool true) ∧ Below w.heap.size w w' := by
  cases h : (nanB x || nanB lo || nanB hi || lessB hi lo)
  · simp only [Bool.or_eq_false_iff] at h
    obtain ⟨⟨⟨n1, n2⟩, n3⟩, l1⟩ := h
    have ec : ∀ y, nanB y = false → clampB y lo hi = if lessB y lo then lo else if lessB hi y then hi else y := by
      intro y hy
      unfold clampB
      rw [hy, n2, n3, l1]
      rfl
    cases l2 : lessB x lo
    · cases l3 : lessB hi x
      · refine clamps_walk x lo hi x hx hlo hhi hx n1 n2 n3 l1 ?_ ?_ l2 l3 (.inr rfl) w <;> rw [ec x n1, l2, l3] <;> rfl
      · refine clamps_walk x lo hi hi hx hlo hhi hhi n1 n2 n3 l1 ?_ ?_ l1 (less_irr hi) (.inl (.inr l3)) w
        · rw [ec x n1, l2, l3]; rfl
        · rw [ec hi n3, l1, less_irr]; rfl
    · refine clamps_walk x lo hi lo hx hlo hhi hlo n1 n2 n3 l1 ?_ ?_ (less_irr lo) l1 (.inl (.inl l2)) w
      · rw [ec x n1, l2]; rfl
      · rw [ec lo n2, less_irr, l1]; rfl
  · exact clamps_none x lo hi hx hlo hhi h w
end Go.Proofs.YtgcoodameahkbaaDoor.Fl
