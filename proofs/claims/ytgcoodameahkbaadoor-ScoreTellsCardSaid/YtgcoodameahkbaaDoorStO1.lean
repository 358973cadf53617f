/- What score.Order's function answers of two places. -/
import Derived.Test.YtgcoodameahkbaaDoorStW8
import Derived.Test.YtgcoodameahkbaaDoorFlRank
import Derived.Test.YtgcoodameahkbaaDoorFl1
namespace Go.Proofs.YtgcoodameahkbaaDoor.Stable
set_option linter.unusedVariables false
set_option linter.unusedSimpArgs false
open Go.Shelf Go.RowKit Go.Lib Go.Sort
open Go.Proofs.YtgcoodameahkbaaDoor.Fl (lessB less_any rank less_rank rank_bd less_rank_false)

/-- What the program's order asks of two places. -/
def cfL (xs : List Nat) (i j : Nat) : Int := if lessB (xs.getD i 0) (xs.getD j 0) then -1 else if lessB (xs.getD j 0) (xs.getD i 0) then 1 else 0

theorem less_w (x y : Nat) (hx : x < 18446744073709551616) (hy : y < 18446744073709551616) (W : World) {v : Bool} (h : lessB x y = v) : Calls Tryd.prog 12 #[.float .f64 x, .float .f64 y] W fun e w' => e = .returned (.bool v) ∧ w' = W := by
  refine (less_any x y hx hy W).mono ?_
  rintro e w' ⟨he, hw⟩
  exact ⟨by rw [he, h], hw.symm⟩

/-- score.Order's function. -/
theorem order1 (xs : List Nat) (n b off c i j p : Nat) (w : World) (hi : i < n) (hj : j < n) (hx : ∀ k, k < n → xs.getD k 0 < 18446744073709551616)
    (hp : w.cell? ⟨p, 0, none⟩ = some (.slice (some ⟨b, off, none⟩) n c))
    (hc : ∀ k, k < n → w.cell? ⟨b, off + k, none⟩ = some (.float .f64 (xs.getD k 0))) :
    Calls Tryd.prog 47 #[.int .i64 i, .int .i64 j, .pointer (some ⟨p, 0, none⟩)] w fun e w' => e = .returned (.int .i64 (cfL xs i j)) ∧ ∃ q, w' = w.drewN q := by
  have hci := hc i hi
  have hcj := hc j hj
  have hxi := hx i hi
  have hxj := hx j hj
  obtain ⟨x, hx0⟩ : ∃ x, xs.getD i 0 = x := ⟨_, rfl⟩
  obtain ⟨y, hy0⟩ : ∃ y, xs.getD j 0 = y := ⟨_, rfl⟩
  have HC : Hid (cfL xs i j = if lessB x y then -1 else if lessB y x then 1 else 0) := by show _ = _; unfold cfL; rw [hx0, hy0]
  rw [hx0] at hci hxi
  rw [hy0] at hcj hxj
  clear hx hc hx0 hy0
  have hiz : (i : Int) < (n : Int) := by omega
  have hjz : (j : Int) < (n : Int) := by omega
  have cells : ∀ q : Nat, (w.drewN q).cell? ⟨p, 0, none⟩ = some (.slice (some ⟨b, off, none⟩) n c) ∧ (w.drewN q).cell? ⟨b, off + i, none⟩ = some (.float .f64 x) ∧ (w.drewN q).cell? ⟨b, off + j, none⟩ = some (.float .f64 y) := fun q => ⟨hp, hci, hcj⟩
  have CS : Aside _ := cells
  clear cells
  cases h1 : lessB x y
  · have L1 := fun W => less_w x y hxi hxj W h1
    cases h2 : lessB y x
    · have L2 := fun W => less_w y x hxj hxi W h2
      have E : cfL xs i j = 0 := by rw [HC.out, h1, h2]; simp
      have H := Lib.hid E; clear E HC h1 h2
      go_enter Tryd.func47, Tryd.ntmps47
      go_wp2_with fail
      go_quiet ((go_at_call 12; exact Calls.quiet_of_same (L1 _)))
      obtain ⟨c1, c2, c3⟩ := CS.out nq
      clear hp hci hcj
      obtain ⟨W, hW⟩ : ∃ W, w.drewN nq = W := ⟨_, rfl⟩
      rw [hW] at c1 c2 c3 ⊢
      have HE0 : Aside (∀ m, ∃ q, W.drewN m = w.drewN q) := fun m => ⟨nq + m, by rw [← hW, World.drewN_drewN]⟩
      clear hW
      go_wp2_with fail
      go_quiet ((go_at_call 12; exact Calls.quiet_of_same (L2 _)))
      have HE : Aside (∃ q, W.drewN nq = w.drewN q) := HE0.out nq
      clear c1 c2 c3 L1 L2
      go_wp2
      go_ret
      exact ⟨by rw [H.out]; rfl, HE.out⟩
    · have L2 := fun W => less_w y x hxj hxi W h2
      have E : cfL xs i j = 1 := by rw [HC.out, h1, h2]; simp
      have H := Lib.hid E; clear E HC h1 h2
      go_enter Tryd.func47, Tryd.ntmps47
      go_wp2_with fail
      go_quiet ((go_at_call 12; exact Calls.quiet_of_same (L1 _)))
      obtain ⟨c1, c2, c3⟩ := CS.out nq
      clear hp hci hcj
      obtain ⟨W, hW⟩ : ∃ W, w.drewN nq = W := ⟨_, rfl⟩
      rw [hW] at c1 c2 c3 ⊢
      have HE0 : Aside (∀ m, ∃ q, W.drewN m = w.drewN q) := fun m => ⟨nq + m, by rw [← hW, World.drewN_drewN]⟩
      clear hW
      go_wp2_with fail
      go_quiet ((go_at_call 12; exact Calls.quiet_of_same (L2 _)))
      have HE : Aside (∃ q, W.drewN nq = w.drewN q) := HE0.out nq
      clear c1 c2 c3 L1 L2
      go_wp2
      go_ret
      exact ⟨by rw [H.out]; rfl, HE.out⟩
  · have L1 := fun W => less_w x y hxi hxj W h1
    have E : cfL xs i j = -1 := by rw [HC.out, h1]; simp
    have H := Lib.hid E; clear E HC h1
    go_enter Tryd.func47, Tryd.ntmps47
    go_wp2_with fail
    go_quiet ((go_at_call 12; exact Calls.quiet_of_same (L1 _)))
    have HE : Aside (∃ q, w.drewN nq = w.drewN q) := ⟨nq, rfl⟩
    clear hp hci hcj L1
    go_wp2
    go_ret
    exact ⟨by rw [H.out]; rfl, HE.out⟩
end Go.Proofs.YtgcoodameahkbaaDoor.Stable
