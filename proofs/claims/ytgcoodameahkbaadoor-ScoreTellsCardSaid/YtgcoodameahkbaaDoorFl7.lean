/- What Low answers, and Text of a number whose whole part is known. -/
import Derived.Test.YtgcoodameahkbaaDoorFl6
import Derived.Test.YtgcoodameahkbaaDoorFlWhole
import Derived.Lib.SmallJoins
namespace Go.Proofs.YtgcoodameahkbaaDoor.Fl
open Go.RowKit

theorem low_any (x n : Int) (h1 : 1 ≤ n) (h2 : n ≤ 1000000000)   : ∃ m : Nat, (m : Int) < n ∧ ∀ w : World, Calls Tryd.prog 11 #[.int .i64 x, .int .i64 n] w fun e w' => e = .returned (.int .i64 m) ∧ w = w' := by
  have hn : IntKind.u64.wrap n = n := by simp [IntKind.wrap, IntKind.signed, IntKind.bits]; omega
  have hx0 : 0 ≤ IntKind.u64.wrap x := by simp [IntKind.wrap, IntKind.signed, IntKind.bits]; omega
  have h3 := Int.emod_nonneg (IntKind.u64.wrap x) (b := n) (by omega)
  have h4 := Int.emod_lt_of_pos (IntKind.u64.wrap x) (b := n) (by omega)
  have hm : ∃ m : Nat, (m : Int) = IntKind.u64.wrap x % n := ⟨(IntKind.u64.wrap x % n).toNat, by omega⟩
  obtain ⟨m, hm⟩ := hm
  refine ⟨m, by omega, fun w => ?_⟩
  have HM := Lib.hid hm
  clear hm
  generalize hu : IntKind.u64.wrap x = u at *
  go_enter Tryd.func11, Tryd.ntmps11
  go_wp2
  go_ret
  exact ⟨by rw [HM.out]; rfl, rfl⟩

/-- Text of a number whose whole part is n. -/
theorem text_at (b n : Nat) (hn : n < 1000000000) (h1 : n * 2 ^ cc ≤ V b) (h2 : V b < (n + 1) * 2 ^ cc) (hb : b < 4741671816366391297) (w : World) (htab : Lib.TabIs Tryd.prog w "internal/strconv.uint64pow10" .u64 Lib.pow10Tab) :
    Calls Tryd.prog 16 #[.float .f64 b] w fun e w' => e = .returned (.string (⟨#[43]⟩ ++ ⟨(Lib.itoa n).toArray⟩)) ∧ Below w.heap.size w w' := by
  obtain ⟨f1, f2, f3, f4, f5, f6, f7⟩ := text_facts hn h1 h2 hb
  have hs : signT b = ⟨#[43]⟩ := by
    unfold signT sgnB
    rw [decide_eq_false (by omega)]; rfl
  have := text_num b n (by omega) f1 (by rw [f2]; exact f3) (by rw [f2]; exact f4) (by rw [f2, f5]; exact f7) (by rw [f2, f5]; exact f6) (by omega) (by omega) w htab
  rw [hs] at this
  exact this
end Go.Proofs.YtgcoodameahkbaaDoor.Fl
