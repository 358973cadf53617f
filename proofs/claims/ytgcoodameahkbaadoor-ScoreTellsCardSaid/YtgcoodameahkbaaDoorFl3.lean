/- What Trunc, FormatInt and Text answer, for numbers below 2 to the 53; FormatInt's table is as laid. -/
import Derived.Test.YtgcoodameahkbaaDoorFl2
import Derived.Test.YtgcoodameahkbaaDoorShelf
import Derived.WalkSmall
import Derived.Lib.ItoaLen
namespace Go.Proofs.YtgcoodameahkbaaDoor.Fl
open Go.RowKit

theorem below_grow (w : World) (k : Nat) (os : Array Obj) : Below w.heap.size w (Sort.grow (w.drewN k) os) :=
  ⟨rfl, rfl, rfl, by simp [Sort.grow, World.drewN], fun j hj => by simp [Sort.grow, World.drewN, Array.getElem?_append_left hj]⟩

theorem trunc_entry (b : Nat) (h : ∀ s t, FloatKind.f64.decode b ≠ .nan s t) : Extern.MathFloor.toIntegral "math.archTrunc" .zero #[.float .f64 b] = (pure (Value.float .f64 (truncB b)) : Sem Value) := by
  unfold truncB
  show (match FloatKind.f64.decode b with
    | .nan s t =>
      if FloatKind.f64.format.quiet t = t then (pure (Value.float .f64 b) : Sem Value) else do
      let kept ← choose (.extern "math.Floor,Ceil,Trunc,RoundToEven.signallingNaN kept" 2)
      pure (Value.float .f64 (if kept == 1 then b else FloatKind.f64.encode (.nan s (FloatKind.f64.format.quiet t))))
    | d => pure (Value.float .f64 (FloatKind.f64.encode (d.integral .zero)))) = _
  cases hd : FloatKind.f64.decode b with
  | nan s t => exact absurd hd (h s t)
  | number s m e => rfl
  | infinity s => rfl

theorem run_trunc (b : Nat) (w : World) (h : ∀ s t, FloatKind.f64.decode b ≠ .nan s t) : (callFunc 48 #[.float .f64 b]).run Tryd.prog w = .ok (.value (.float .f64 (truncB b))) w := by
  rw [run_callFunc_extern Tryd.func48 (by kernel_rfl) (by kernel_rfl) (by kernel_rfl) (e := Extern.MathFloor.toIntegral "math.archTrunc" .zero) (by kernel_rfl), trunc_entry b h]
  rfl

theorem trunc_num (b : Nat) (w : World) (h : ∀ s t, FloatKind.f64.decode b ≠ .nan s t) : Calls Tryd.prog 41 #[.float .f64 b] w fun e w' => e = .returned (.float .f64 (truncB b)) ∧ w = w' := by
  have hr := fun W => run_trunc b W h
  clear h
  go_enter Tryd.func41, Tryd.ntmps41
  go_wp2
  clear hr
  go_ret
  exact ⟨rfl, rfl⟩

theorem formatInt50 (n : Int) (h0 : -9223372036854775808 ≤ n) (h1 : n ≤ 9223372036854775807) (w : World) (htab : Lib.TabIs Tryd.prog w "internal/strconv.uint64pow10" .u64 Lib.pow10Tab) :
    Calls Tryd.prog 50 #[.int .i64 n, .int .i64 10] w fun e w' => e = .returned (.string ⟨(Lib.itoa n).toArray⟩) ∧ Below w.heap.size w w' := by
  refine (Tryd.internal_strconv_FormatInt_10 n h0 h1 w htab).mono ?_
  rintro e w' ⟨he, k, os, rfl⟩
  exact ⟨he, below_grow w k os⟩

theorem formatInt_any (n : Int) (h0 : -9223372036854775808 ≤ n) (h1 : n ≤ 9223372036854775807) (w : World) (htab : Lib.TabIs Tryd.prog w "internal/strconv.uint64pow10" .u64 Lib.pow10Tab) :
    Calls Tryd.prog 42 #[.int .i64 n, .int .i64 10] w fun e w' => e = .returned (.string ⟨(Lib.itoa n).toArray⟩) ∧ Below w.heap.size w w' := by
  have HT := Lib.hid htab
  clear htab
  go_enter Tryd.func42, Tryd.ntmps42
  go_wp2_with (go_at_call 50; refine (formatInt50 n h0 h1 _ HT.out).mono ?_; rintro e w' ⟨rfl, hb⟩)
  go_ret
  exact ⟨rfl, by assumption⟩

/-- the sign's text -/
def signT (b : Nat) : ByteArray := if sgnB b then ⟨#[45]⟩ else ⟨#[43]⟩

theorem text_num (b : Nat) (n : Int) (hb : b < 18446744073709551616) (hn : nanB b = false) (hinf : (FloatKind.f64.format.order (absB b) 9218868437227405311 == some .gt) = false)
    (hd : ∀ s t, FloatKind.f64.decode (absB b) ≠ .nan s t) (hm : (FloatKind.f64.format.order (truncB (absB b)) 4845873199050653696 == some .gt || FloatKind.f64.format.order (truncB (absB b)) 4845873199050653696 == some .eq) = false)
    (hi : floatToIntVal .f64 (truncB (absB b)) .i64 = some n) (h0 : -9223372036854775808 ≤ n) (h1 : n ≤ 9223372036854775807) (w : World) (htab : Lib.TabIs Tryd.prog w "internal/strconv.uint64pow10" .u64 Lib.pow10Tab) :
    Calls Tryd.prog 16 #[.float .f64 b] w fun e w' => e = .returned (.string (signT b ++ ⟨(Lib.itoa n).toArray⟩)) ∧ Below w.heap.size w w' := by
  have hf := fun W => run_convert_float_int (P := Tryd.prog) W 24 2 .f64 .i64 (truncB (absB b)) n (by kernel_rfl) Tryd.underlying2 hi
  have hlen : (Lib.itoa n).length ≤ 21 := Lib.itoa_length_le n h0 h1
  have HT := Lib.hid hd
  have HTab := Lib.hid htab
  have HN := Lib.hid hn
  have HI := Lib.hid hinf
  clear hd htab hi hn hinf
  cases hs : sgnB b
  · have HS := Lib.hid hs
    clear hs
    go_enter Tryd.func16, Tryd.ntmps16
    go_wp2_with (first | (go_at_call 40; refine (signbit_any _ (by assumption) _).mono ?_; rintro e w' ⟨rfl, rfl⟩; rw [HS.out]) | (go_at_call 39; refine (abs_any _ (by assumption) _).mono ?_; rintro e w' ⟨rfl, rfl⟩) | (go_at_call 41; refine (trunc_num _ _ HT.out).mono ?_; rintro e w' ⟨rfl, rfl⟩) | (go_at_call 15; refine (isNaN_any _ _).mono ?_; rintro e w' ⟨rfl, rfl⟩; rw [HN.out]) | (go_at_call 14; refine (isInf_zero _ (by assumption) _).mono ?_; rintro e w' ⟨rfl, rfl⟩; rw [HI.out]) | (go_at_call 42; refine (formatInt_any _ h0 h1 _ HTab.out).mono ?_; rintro e w' ⟨rfl, hbel⟩))
    go_ret
    refine ⟨?_, by assumption⟩
    unfold signT
    rw [HS.out]
    rfl
  · have HS := Lib.hid hs
    clear hs
    go_enter Tryd.func16, Tryd.ntmps16
    go_wp2_with (first | (go_at_call 40; refine (signbit_any _ (by assumption) _).mono ?_; rintro e w' ⟨rfl, rfl⟩; rw [HS.out]) | (go_at_call 39; refine (abs_any _ (by assumption) _).mono ?_; rintro e w' ⟨rfl, rfl⟩) | (go_at_call 41; refine (trunc_num _ _ HT.out).mono ?_; rintro e w' ⟨rfl, rfl⟩) | (go_at_call 15; refine (isNaN_any _ _).mono ?_; rintro e w' ⟨rfl, rfl⟩; rw [HN.out]) | (go_at_call 14; refine (isInf_zero _ (by assumption) _).mono ?_; rintro e w' ⟨rfl, rfl⟩; rw [HI.out]) | (go_at_call 42; refine (formatInt_any _ h0 h1 _ HTab.out).mono ?_; rintro e w' ⟨rfl, hbel⟩))
    go_ret
    refine ⟨?_, by assumption⟩
    unfold signT
    rw [HS.out]
    rfl
end Go.Proofs.YtgcoodameahkbaaDoor.Fl
