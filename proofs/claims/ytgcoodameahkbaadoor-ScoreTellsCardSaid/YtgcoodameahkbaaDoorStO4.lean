/- What score.Order answers of nothing, and of at most forty numbers. -/
import Derived.Test.YtgcoodameahkbaaDoorStO3
namespace Go.Proofs.YtgcoodameahkbaaDoor.Stable
set_option linter.unusedVariables false
set_option linter.unusedSimpArgs false
open Go.Shelf Go.RowKit Go.Lib Go.Sort

theorem ins_zero (A : Option Addr) (cap : Nat) (fv : Value) (w : World) :
    Calls Tryd.prog 56 #[.slice A 0 cap, .int .i64 0, .int .i64 0, fv] w fun e w' => e = .returned (.tuple #[]) ∧ w = w' := by
  go_enter Tryd.func56, Tryd.ntmps56
  go_wp2
  go_loopg [8] 0 (fun g1 vi wr => vi = .int .i64 1 ∧ wr = w)
  case atStart => exact ⟨by first | rfl | go_num, rfl⟩
  case round =>
    obtain ⟨rfl, rfl⟩ := hrel
    go_wp2
    go_end0
    exact ⟨rfl, rfl⟩
theorem stable_zero (A : Option Addr) (cap : Nat) (fv : Value) (w : World) :
    Calls Tryd.prog 51 #[.slice A 0 cap, .int .i64 0, fv] w fun e w' => e = .returned (.tuple #[]) ∧ w = w' := by
  have HI := Lib.hid (ins_zero A cap fv w)
  go_enter Tryd.func51, Tryd.ntmps51
  go_wp2
  go_loopg [7, 8] 0 (fun g1 va vb wr => va = .int .i64 0 ∧ vb = .int .i64 20 ∧ wr = w)
  case atStart => exact ⟨rfl, by first | rfl | go_num, rfl⟩
  case round =>
    obtain ⟨rfl, rfl, rfl⟩ := hrel
    go_wp2_with fail
    with_reducible refine HI.out.mono ?_
    rintro e w1 ⟨rfl, rfl⟩
    go_wp2
    go_loopg [6] 0 (fun g1 va w2 => va = .int .i64 20 ∧ w2 = wr)
    case atStart => exact ⟨by first | rfl | go_num, rfl⟩
    case round =>
      obtain ⟨rfl, h⟩ := hrel
      have H := Lib.hid h
      clear h
      go_wp2
      go_end0
      exact ⟨rfl, H.out.symm⟩
theorem sort_zero (A : Option Addr) (cap : Nat) (fv : Value) (w : World) :
    Calls Tryd.prog 46 #[.slice A 0 cap, fv] w fun e w' => e = .returned (.tuple #[]) ∧ w = w' := by
  have HI := Lib.hid (stable_zero A cap fv w)
  go_enter Tryd.func46, Tryd.ntmps46
  go_wp2_with fail
  with_reducible refine HI.out.mono ?_
  rintro e w1 ⟨rfl, rfl⟩
  go_wp2
  go_end0
  exact ⟨rfl, rfl⟩

set_option maxHeartbeats 1000000 in
set_option maxRecDepth 100000 in
theorem order_none (xs : List Nat) (A : Option Addr) (c : Nat) (w : World) :
    Calls Tryd.prog 26 #[.slice A 0 c] w (OrdPost xs 0 w) := by
  obtain ⟨i0, hi, hz0, hz1, hz2⟩ := info_parts info3
  go_enter Tryd.func26, Tryd.ntmps26
  go_wp2_with (at_make; refine wpList_make_full _ rfl _ _ 33 rfl w.heap.size 3 i0 (.int .i64 0) 1 Tryd.underlying33 hi hz0 hz1 .i64 .i64 _ _ 0 rfl rfl rfl rfl (by omega) (by unfold maxLen; omega) (by simp) ?_; intro w0 hown0 hgrow0)
  have HO : Aside (w0.ownsRow w.heap.size 3 1 (.slice (some ⟨w.heap.size + 1, 0, none⟩) 0 0) 0 []) := by have h := hown0; rw [show (w.alloc (Obj.cells #[Value.slice A 0 c] 34)).heap.size = w.heap.size + 1 by simp, ← fill_zero 0] at h; exact h
  have HB : Aside (Below w.heap.size w w0) := ((Below.refl _ w).alloc (Nat.le_refl _) _).grown hgrow0 (by simp) (by simp)
  clear hown0 hgrow0 hi hz0 hz1 hz2
  go_loopg [4, 10] 0 (fun g1 v4 v10 wr => v10 = .int .i64 0 ∧ wr = w0)
  case atStart => exact ⟨by first | rfl | go_num, rfl⟩
  case round =>
    obtain ⟨rfl, rfl⟩ := hrel
    have C := Lib.hid (fun fv => sort_zero (some ⟨w.heap.size + 1, 0, none⟩) 0 fv wr)
    go_wp2_with fail
    with_reducible refine (C.out _).mono ?_
    rintro e w1 ⟨rfl, rfl⟩
    have HE : Aside (OrdPost xs 0 w (.returned (.slice (some ⟨w.heap.size + 1, 0, none⟩) 0 0)) wr) := ⟨w.heap.size + 1, [], rfl, ⟨by simp, fun i j h1 h2 => by omega⟩, HO.out, HB.out⟩
    clear C HO HB
    go_wp2
    go_ret
    exact HE.out

/-- score.Order, whatever is asked of it (at most forty). -/
theorem order_any (xs : List Nat) (n : Nat) (A : Option Addr) (c : Nat) (w : World) (hn : n ≤ 40) (hA : 0 < n → ∃ b off, A = some ⟨b, off, none⟩ ∧ b < w.heap.size ∧ ∀ k, k < n → w.cell? ⟨b, off + k, none⟩ = some (.float .f64 (xs.getD k 0)))
    (hx : ∀ k, k < n → xs.getD k 0 < 18446744073709551616) : Calls Tryd.prog 26 #[.slice A n c] w (OrdPost xs n w) := by
  by_cases h0 : 0 < n
  · obtain ⟨b, off, rfl, hb, hc⟩ := hA h0
    exact order_some xs n b off c w h0 hn hb hx hc
  · obtain rfl : n = 0 := by omega
    exact order_none xs A c w
end Go.Proofs.YtgcoodameahkbaaDoor.Stable
